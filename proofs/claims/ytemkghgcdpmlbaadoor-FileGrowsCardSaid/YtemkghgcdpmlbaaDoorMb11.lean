/- Contracts of functions and plain laws, joined: Kba, Pk2. -/
import Derived.Test.YtemkghgcdpmlbaaDoorMb10
import Derived.Test.YtemkghgcdpmlbaaDoorMb6
/- The walk of contract.Valid at every contract in memory. -/
namespace Go.Proofs.YtemkghgcdpmlbaaDoor
open Go.RowKit

theorem kind_any (c : Con) (m : Cm) (x : Km) (w : World) (hs : Seg w w.heap.size 7 eA m.a c.ac) : Calls Tryd.prog 60 #[.agg (coA c m), .agg (kA x)] w fun e w' => e = .returned (.bool (c.kindOk x.k)) ∧ Below w.heap.size w w' :=
  kind_key c m x (c.mov x.k.role) (c.nat x.k.act) w (fun W => mov_any c m _ W) (fun W hb => nat_any c m _ W ((hs.below hb).more hb.size)) (c.kindOk x.k) rfl
theorem act_any (c : Con) (m : Cm) (x : Atc) (w : World) (hb : I64 x.lot.1 ∧ I64 x.lot.2) : Calls Tryd.prog 59 #[.agg (coA c m), .agg (aA x)] w fun e w' => e = .returned (.bool (c.actOk x)) ∧ Below w.heap.size w w' := by
  cases h : c.mov x.role with
  | true =>
    have e : c.actOk x = if x.kind == 1 then x.give == 0 && (x.to_ == -1 || c.mov x.to_) && (if x.unit == -1 then zer x.lot else isI x.unit c.un.length && psv (x.lot.1, x.lot.2)) else (x.kind == 2 || x.kind == 3) && c.mov x.give && decide (0 ≤ x.to_) && decide (x.to_ < c.par) && x.unit == -1 && zer x.lot := by
      unfold Con.actOk; rw [h]; rfl
    rw [e]
    exact act_mov c m x (c.mov x.role) (c.mov x.to_) (c.mov x.give) (psv (x.lot.1, x.lot.2)) w (fun W => mov_any c m _ W) (fun W => mov_any c m _ W) (fun W => mov_any c m _ W) (fun W => none_any W) (fun W => pos_any _ _ W hb.1 hb.2) h
  | false =>
    have e : c.actOk x = (x.kind == 1 && x.role == -1 && x.give == 0 && (x.to_ == -1 || c.mov x.to_) && x.unit == -1 && zer x.lot) := by
      unfold Con.actOk; rw [h]; rfl
    rw [e]
    exact act_nat c m x (c.mov x.role) (c.mov x.to_) (c.mov x.give) (psv (x.lot.1, x.lot.2)) w (fun W => mov_any c m _ W) (fun W => mov_any c m _ W) (fun W => mov_any c m _ W) (fun W => none_any W) (fun W => pos_any _ _ W hb.1 hb.2) h
theorem framed_any (c : Con) (m : Cm) (w : World) (h : Cont w c m) (hp : c.par ≤ 12) : Calls Tryd.prog 47 #[.agg (coA c m)] w fun e w' => e = .returned (.bool c.framed) ∧ Below w.heap.size w w' :=
  framed_key c m (c.hold.all fun h => decide (0 ≤ h) && decide (h < c.par)) (unsOk c.un 0 c.un) w h.a h.o h.na h.no (fun W hb => held_any c m W ((h.h.below hb).more hb.size) h.nh (by omega)) (fun W hb => uns_any c.un m.u m.uc W ((h.u.below hb).more hb.size) h.bu h.nu h.cu)
    (fun x hx W _ => act_any c m x W (h.ba x hx)) c.framed rfl
theorem cla_any (c : Con) (m : Cm) (i : Nat) (k : Cla) (w : World) (h : Cont w c m) (hk : c.cl[i]? = some k) : Calls Tryd.prog 48 #[.agg (coA c m), .int .i64 (i : Nat)] w fun e w' => e = .returned (.bool (c.claOk i k)) ∧ Below w.heap.size w w' := by
  obtain ⟨x, hx, rfl⟩ := km_at h.e hk
  have kx := h.t x (List.mem_of_getElem? hx)
  have hs : ∀ W, Below w.heap.size w W → Seg W W.heap.size 7 eA m.a c.ac := fun W hb => (h.a.below hb).more hb.size
  exact cla_key c m i x (c.kindOk x.k) (c.nat x.k.pause) (c.nat x.k.resume) (psv (x.k.v.1, x.k.v.2)) (c.mov x.k.to_) w hx (List.getElem?_eq_some_iff.1 hk).1 h.k kx.s h.u h.nk (fun W hb => kind_any c m x W (hs W hb)) (fun W hb => nat_any c m _ W (hs W hb)) (fun W hb => nat_any c m _ W (hs W hb))
    (fun W _ => none_any W) (fun W _ => pos_any _ _ W kx.v.1 kx.v.2) (fun W _ => mov_any c m _ W) (c.claOk i x.k) rfl
set_option maxRecDepth 100000 in
set_option maxHeartbeats 6400000 in
theorem valid_c (c : Con) (m : Cm) (w : World) (h : Cont w c m) : Calls Tryd.prog 32 #[.agg (coA c m)] w fun e w' => (∃ a b : Int, e = .returned (.tuple #[.int .i64 a, .int .i64 b]) ∧ (a = 0 ↔ c.ok = true)) ∧ Below w.heap.size w w' := by
  have HC := Lib.hid h
  clear h
  have nk := HC.out.nk
  go_enter Tryd.func32, Tryd.ntmps32
  go_upto_region 1 with (fail)
  refine name_wp ?_
  intro X hX
  have ga : Blk X w.heap.size 27 (coA c m) := by rw [hX]; exact Blk.new _ _ _
  have HB : Hid (Below w.heap.size w X) := by rw [hX]; exact wa1 _ _
  obtain ⟨ba, eb⟩ : ∃ b, w.heap.size = b := ⟨_, rfl⟩
  rw [eb] at ga ⊢
  clear hX eb
  have k0 : X.cell? ⟨ba, 0, none⟩ = some (.int .i64 c.par) := (ga).cell 0
  have k1 : X.cell? ⟨ba, 1, none⟩ = some (.slice m.h c.hold.length m.hc) := (ga).cell 1
  have k2 : X.cell? ⟨ba, 2, none⟩ = some (.slice m.u c.un.length m.uc) := (ga).cell 2
  have k3 : X.cell? ⟨ba, 3, none⟩ = some (.slice m.a c.ac.length m.ac) := (ga).cell 3
  have k4 : X.cell? ⟨ba, 4, none⟩ = some (.slice m.k c.cl.length m.kc) := (ga).cell 4
  have k5 : X.cell? ⟨ba, 5, none⟩ = some (.int .i64 c.days) := (ga).cell 5
  have k6 : X.cell? ⟨ba, 6, none⟩ = some (.slice m.o c.off.length m.oc) := (ga).cell 6
  have lim : ∀ {p : Prop} [Decidable p], ¬ p → (c.lim = true → p) → Hid (c.ok = false) := fun {p} _ hn hi => by
    unfold Hid Con.ok
    cases hl : c.lim with
    | false => rfl
    | true => exact absurd (hi hl) hn
  have lims : c.lim = true → c.par ≤ 12 ∧ c.days ≤ 2000 ∧ c.hold.length ≤ 12 ∧ c.un.length ≤ 20 ∧ c.ac.length ≤ 60 ∧ c.cl.length ≤ 400 := fun h => by
    unfold Con.lim at h
    simp only [Bool.and_eq_true, decide_eq_true_eq] at h
    omega
  by_cases p0 : 12 < c.par
  · have t0 := decide_eq_true p0
    have hf := lim (p := c.par ≤ 12) (by omega) (fun h => by have := lims h; omega)
    clear lim lims
    go_wp2
    refine bodyPost_ret (by simp [results, Tryd.results32, go_sem, *]; rfl) rfl ⟨?_, ?_⟩
    · first | exact ⟨_, ⟨_, rfl⟩, ⟨fun h => (by cases h), fun h => by rw [hf.out] at h; cases h⟩⟩ | exact ⟨_, _, rfl, ⟨fun h => (by cases h), fun h => by rw [hf.out] at h; cases h⟩⟩
    · exact HB.out
  have t0 := decide_eq_false p0
  by_cases p1 : 2000 < c.days
  · have t1 := decide_eq_true p1
    have hf := lim (p := c.days ≤ 2000) (by omega) (fun h => by have := lims h; omega)
    clear lim lims
    go_wp2
    refine bodyPost_ret (by simp [results, Tryd.results32, go_sem, *]; rfl) rfl ⟨?_, ?_⟩
    · first | exact ⟨_, ⟨_, rfl⟩, ⟨fun h => (by cases h), fun h => by rw [hf.out] at h; cases h⟩⟩ | exact ⟨_, _, rfl, ⟨fun h => (by cases h), fun h => by rw [hf.out] at h; cases h⟩⟩
    · exact HB.out
  have t1 := decide_eq_false p1
  by_cases p2 : (12 : Int) < c.hold.length
  · have t2 := decide_eq_true p2
    have hf := lim (p := c.hold.length ≤ 12) (by omega) (fun h => by have := lims h; omega)
    clear lim lims
    go_wp2
    refine bodyPost_ret (by simp [results, Tryd.results32, go_sem, *]; rfl) rfl ⟨?_, ?_⟩
    · first | exact ⟨_, ⟨_, rfl⟩, ⟨fun h => (by cases h), fun h => by rw [hf.out] at h; cases h⟩⟩ | exact ⟨_, _, rfl, ⟨fun h => (by cases h), fun h => by rw [hf.out] at h; cases h⟩⟩
    · exact HB.out
  have t2 := decide_eq_false p2
  by_cases p3 : (20 : Int) < c.un.length
  · have t3 := decide_eq_true p3
    have hf := lim (p := c.un.length ≤ 20) (by omega) (fun h => by have := lims h; omega)
    clear lim lims
    go_wp2
    refine bodyPost_ret (by simp [results, Tryd.results32, go_sem, *]; rfl) rfl ⟨?_, ?_⟩
    · first | exact ⟨_, ⟨_, rfl⟩, ⟨fun h => (by cases h), fun h => by rw [hf.out] at h; cases h⟩⟩ | exact ⟨_, _, rfl, ⟨fun h => (by cases h), fun h => by rw [hf.out] at h; cases h⟩⟩
    · exact HB.out
  have t3 := decide_eq_false p3
  by_cases p4 : (60 : Int) < c.ac.length
  · have t4 := decide_eq_true p4
    have hf := lim (p := c.ac.length ≤ 60) (by omega) (fun h => by have := lims h; omega)
    clear lim lims
    go_wp2
    refine bodyPost_ret (by simp [results, Tryd.results32, go_sem, *]; rfl) rfl ⟨?_, ?_⟩
    · first | exact ⟨_, ⟨_, rfl⟩, ⟨fun h => (by cases h), fun h => by rw [hf.out] at h; cases h⟩⟩ | exact ⟨_, _, rfl, ⟨fun h => (by cases h), fun h => by rw [hf.out] at h; cases h⟩⟩
    · exact HB.out
  have t4 := decide_eq_false p4
  by_cases p5 : (400 : Int) < c.cl.length
  · have t5 := decide_eq_true p5
    have hf := lim (p := c.cl.length ≤ 400) (by omega) (fun h => by have := lims h; omega)
    clear lim lims
    go_wp2
    refine bodyPost_ret (by simp [results, Tryd.results32, go_sem, *]; rfl) rfl ⟨?_, ?_⟩
    · first | exact ⟨_, ⟨_, rfl⟩, ⟨fun h => (by cases h), fun h => by rw [hf.out] at h; cases h⟩⟩ | exact ⟨_, _, rfl, ⟨fun h => (by cases h), fun h => by rw [hf.out] at h; cases h⟩⟩
    · exact HB.out
  have t5 := decide_eq_false p5
  have hlim : Hid (c.lim = true) := by
    unfold Hid Con.lim
    simp only [Bool.and_eq_true, decide_eq_true_eq]
    omega
  have HF := Lib.hid (fun W hb => framed_any c m W (HC.out.then_ hb) (by omega))
  have hp0 : c.par ≤ 12 := by omega
  clear lim lims p0 p1 p2 p3 p4 p5
  cases hfr : c.framed with
  | false =>
    rw [hfr] at HF
    have hf : Hid (c.ok = false) := by unfold Hid Con.ok; rw [hfr, Bool.and_false]; rfl
    go_wp2_with (go_at_call 47; (with_reducible refine (HF.out _ HB.out).mono ?_); rintro e w1 ⟨rfl, hbw1⟩)
    refine bodyPost_ret (by simp [results, Tryd.results32, go_sem, *]; rfl) rfl ⟨?_, ?_⟩
    · first | exact ⟨_, ⟨_, rfl⟩, ⟨fun h => (by cases h), fun h => by rw [hf.out] at h; cases h⟩⟩ | exact ⟨_, _, rfl, ⟨fun h => (by cases h), fun h => by rw [hf.out] at h; cases h⟩⟩
    · exact below_then HB.out hbw1
  | true =>
  rw [hfr] at HF
  have hok : Hid (c.ok = c.clsOk 0 c.cl) := by unfold Hid Con.ok; rw [hlim.out, hfr]; rfl
  go_upto_region 5 with (go_at_call 47; (with_reducible refine (HF.out _ HB.out).mono ?_); rintro e w1 ⟨rfl, hbw1⟩)
  refine name_wp ?_
  intro Y hY
  have gb : Blk Y ba 27 (coA c m) := by rw [hY]; exact ga.then_ hbw1
  have HY : Hid (Below w.heap.size w Y) := by rw [hY]; exact below_then HB.out hbw1
  clear hY hbw1 ga HB t0 t1 t2 t3 t4 t5 k0 k1 k2 k3 k4 k5 k6 HF hlim hfr hp0
  have k4 : Y.cell? ⟨ba, 4, none⟩ = some (.slice m.k c.cl.length m.kc) := gb.cell 4
  go_upto_region 6 with (fail)
  clear k4
  have lY := HY.out.size
  go_loopw [43] (fun y WR => ∃ j : Nat, j ≤ c.cl.length ∧ y = .int .i64 j ∧ Hid (∀ n k, n < j → c.cl[n]? = some k → c.claOk n k = true) ∧ Below Y.heap.size Y WR) (fun y _ => 2000000 - (intOf y).toNat)
  case atStart => exact ⟨0, by omega, rfl, fun n u h => absurd h (by omega), Below.refl _ _⟩
  case round =>
    obtain ⟨j, hj, rfl, hN, hbr⟩ := hrel
    have ga := gb.then_ hbr
    have HBR := Lib.hid (below_then HY.out hbr)
    have HBZ := Lib.hid hbr
    by_cases hlt : j < c.cl.length
    · have tj : decide ((j : Int) < (c.cl.length : Int)) = true := decide_eq_true (by omega)
      obtain ⟨k, hk⟩ : ∃ k, c.cl[j]? = some k := ⟨_, List.getElem?_eq_getElem hlt⟩
      have HX := Lib.hid hk
      have HV := Lib.hid (cla_any c m j k wr (HC.out.then_ HBR.out) hk)
      clear hk hbr
      have k0 : wr.cell? ⟨ba, 0, none⟩ = some (.int .i64 c.par) := (ga).cell 0
      have k1 : wr.cell? ⟨ba, 1, none⟩ = some (.slice m.h c.hold.length m.hc) := (ga).cell 1
      have k2 : wr.cell? ⟨ba, 2, none⟩ = some (.slice m.u c.un.length m.uc) := (ga).cell 2
      have k3 : wr.cell? ⟨ba, 3, none⟩ = some (.slice m.a c.ac.length m.ac) := (ga).cell 3
      have k4 : wr.cell? ⟨ba, 4, none⟩ = some (.slice m.k c.cl.length m.kc) := (ga).cell 4
      have k5 : wr.cell? ⟨ba, 5, none⟩ = some (.int .i64 c.days) := (ga).cell 5
      have k6 : wr.cell? ⟨ba, 6, none⟩ = some (.slice m.o c.off.length m.oc) := (ga).cell 6
      cases hq : c.claOk j k with
      | true =>
        rw [hq] at HV
        go_wp2_with (go_at_call 48; (with_reducible refine HV.out.mono ?_); rintro e w1 ⟨rfl, hbw1⟩)
        go_roundw
        case rel => exact ⟨j + 1, by omega, by simp, fun n y hi hy => by
          by_cases h : n = j
          · subst h
            rw [HX.out] at hy
            injection hy with hy
            subst hy
            exact hq
          · exact hN.out n y (by omega) hy, below_then HBZ.out hbw1⟩
        case measure => simp [intOf]; omega
      | false =>
        rw [hq] at HV
        have hf : Hid (c.ok = false) := by
          unfold Hid
          rw [hok.out, Bool.eq_false_iff]
          intro h
          have := (Con.clsOk_iff c c.cl 0).1 h j k HX.out
          rw [Nat.zero_add, hq] at this
          cases this
        go_wp2_with (go_at_call 48; (with_reducible refine HV.out.mono ?_); rintro e w1 ⟨rfl, hbw1⟩)
        refine bodyPost_ret (by simp [results, Tryd.results32, go_sem, *]; rfl) rfl ⟨?_, ?_⟩
        · first | exact ⟨_, ⟨_, rfl⟩, ⟨fun h => (by cases h), fun h => by rw [hf.out] at h; cases h⟩⟩ | exact ⟨_, _, rfl, ⟨fun h => (by cases h), fun h => by rw [hf.out] at h; cases h⟩⟩
        · exact below_then HBR.out hbw1
    · have tj : decide ((j : Int) < (c.cl.length : Int)) = false := decide_eq_false (by omega)
      have hf : Hid (c.ok = true) := by
        unfold Hid
        rw [hok.out, Con.clsOk_iff]
        intro n k hk
        rw [Nat.zero_add]
        exact hN.out n k (by have := (List.getElem?_eq_some_iff.1 hk).1; omega) hk
      clear hbr hN gb
      go_wp2
      refine bodyPost_ret (by simp [results, Tryd.results32, go_sem, *]; rfl) rfl ⟨?_, ?_⟩
      · first | exact ⟨_, ⟨_, rfl⟩, ⟨fun _ => hf.out, fun _ => rfl⟩⟩ | exact ⟨_, _, rfl, ⟨fun _ => hf.out, fun _ => rfl⟩⟩
      · exact HBR.out
end Go.Proofs.YtemkghgcdpmlbaaDoor
/- 'for i, x := range l' at a struct: the load, the new variable, an assignment, the store. -/
namespace Go.Proofs.YtemkghgcdpmlbaaDoor
open Go.RowKit

/-- the same with an assignment between the new variable and the store -/
theorem wpList_elem4 {P : Program} {ops : Array Oper} {rest : List Oper} {o1 o2 oa o3 : Oper} {a : Act} {w : World} {Q : Exit → Act → World → Prop} {n : Nat} (ty : TypeId) (E : ElT P ty n) (x y : Operand) (d1 d2 d3 : Tmp)
    (g1 : o1.guard = none) (g2 : o2.guard = none) (ga : oa.guard = none) (g3 : o3.guard = none)
    (ho1 : o1.op = .load ty x) (hd1 : o1.dst = some d1) (ho2 : o2.op = .alloc ty) (hd2 : o2.dst = some d2) (hoa : oa.op = .assign y) (hda : oa.dst = some d3) (ho3 : o3.op = .store ty (.tmp d2) (.tmp d1)) (hd3 : o3.dst = none)
    (b o : Nat) (hx : a.eval x = .pointer (some ⟨b, o, none⟩)) (cs : List Value) (hn : cs.length = n) (hc : w.rangeAt b o cs) (h1 : ∀ v ∈ cs, v.oneCell' = true) (hne : d1 ≠ d2) (hne1 : d3 ≠ d1) (hne2 : d3 ≠ d2) (s1 : d1 < a.tmps.size) (s2 : d2 < a.tmps.size)
    (u : Value) (hyu : ((a.put (some d1) (.agg cs.toArray)).put (some d2) (.pointer (some ⟨w.heap.size, 0, none⟩))).eval y = u)
    (h : wpList P ops Q rest (((a.put (some d1) (.agg cs.toArray)).put (some d2) (.pointer (some ⟨w.heap.size, 0, none⟩))).put (some d3) u) (w.alloc (.cells cs.toArray ty))) : wpList P ops Q (o1 :: o2 :: oa :: o3 :: rest) a w := by
  subst hn hyu
  obtain ⟨⟨fs, hu⟩, hi, v, hz, hzr⟩ := E
  refine wpList_load_mid g1 ty x ho1 b o hx cs _ hc hu rfl hi ?_
  rw [hd1]
  refine wpList_plain g2 fun K hK => ?_
  have hrun : (execOp (Act.eval (a.put (some d1) (.agg cs.toArray))) o2).run P w = .ok (.value (.pointer (some ⟨w.heap.size, 0, none⟩))) (w.alloc (.cells v.cells ty)) := by
    unfold execOp
    simp only [ho2, Instr.alloc, Sem.run_bind, hzr, Result.andThen_ok, newVar, newRow]
    rfl
  unfold Oper.wp
  rw [hrun, Oper.upon_value]
  refine hK _ _ ?_
  rw [hd2]
  refine wpList_plain ga fun K hK => ?_
  unfold Oper.wp execOp
  simp only [hoa]
  refine hK _ _ ?_
  rw [hda]
  refine wpList_store_mid g3 ty _ _ ho3 w.heap.size 0 cs.toArray ?_ ?_ ?_ (by simpa using hi) (all_oneCell_toArray h1) ?_
  · simp [Act.eval, Act.put, Array.getElem?_setIfInBounds, hne2, s2]
  · simp [Act.eval, Act.put, Array.getElem?_setIfInBounds, hne.symm, hne1, s1]
  · intro j hj
    simp only [Nat.zero_add, List.size_toArray] at hj ⊢
    rw [World.cell?_alloc_at _ _ _ _ rfl, World.frozen?_alloc_at _ _ _ _ rfl]
    simp [hz, hj]
  · rw [hd3]
    simp only
    rw [setCells_new0 w ty _ cs hz]
    exact h
end Go.Proofs.YtemkghgcdpmlbaaDoor
