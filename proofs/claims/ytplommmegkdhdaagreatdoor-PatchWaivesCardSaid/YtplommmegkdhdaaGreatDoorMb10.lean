/- Contracts of functions and plain laws, joined: Kbc, Kbe, Kbf, Kbd, Stp. -/
import Derived.Test.YtplommmegkdhdaaGreatDoorMb9
import Derived.Maps.OwnSet
/- The walks of patch.zero and patch.copied. -/
namespace Go.Proofs.YtplommmegkdhdaaGreatDoor
open Go.RowKit

set_option maxRecDepth 100000 in
set_option maxHeartbeats 3200000 in
theorem zero_any (x : Km) (w : World) : Calls Tryz.prog 44 #[.agg (kA x)] w fun e w' => e = .returned (.bool (zeroC x.k)) ∧ Below w.heap.size w w' := by
  have heq := fun W => eqv2 x.k.v.1 x.k.v.2 0 0 W
  obtain ⟨R, hR⟩ : ∃ R, zeroC x.k = R := ⟨_, rfl⟩
  rw [hR]
  have HR := Lib.hid hR
  clear hR
  have hl : ((x.k.start.length : Int) == 0) = decide (x.k.start.length = 0) := by rw [Bool.eq_iff_iff]; simp
  obtain ⟨l0, el⟩ : ∃ b, decide (x.k.start.length = 0) = b := ⟨_, rfl⟩
  have HEL := Lib.hid el
  rw [el] at hl
  clear el
  obtain ⟨hv, ev⟩ : ∃ b, decide (x.k.v.1 = 0 ∧ x.k.v.2 = 0) = b := ⟨_, rfl⟩
  have HEV := Lib.hid ev
  simp only [ev] at heq
  clear ev
  have HRR : Hid (R = (l0 && x.k.kind == 0 && x.k.role == 0 && x.k.act == 0 && x.k.need == 0 && x.k.aft == 0 && x.k.grace == 0 && !x.k.bus && !x.k.fin && x.k.pause == 0 && x.k.resume == 0 && hv && x.k.unit == 0 && x.k.to_ == 0 && !x.k.waived)) := by
    unfold Hid
    rw [← HR.out, ← HEL.out, ← HEV.out]
    unfold zeroC
    have : (decide (x.k.v.1 = 0 ∧ x.k.v.2 = 0)) = (x.k.v.1 == 0 && x.k.v.2 == 0) := by rw [Bool.eq_iff_iff]; simp
    rw [this]
  clear HR HEL HEV
  cases l0
  · have hf : Hid (R = false) := by unfold Hid; rw [HRR.out]; rfl
    clear HRR
    go_enter Tryz.func44, Tryz.ntmps44
    go_wp2
    go_ret
    exact ⟨ret_bool hf.out.symm, wa1 _ _⟩
  · go_enter Tryz.func44, Tryz.ntmps44
    go_wp2
    all_goals go_ret
    all_goals exact ⟨ret_bool (by rw [HRR.out]; first | (simp_all; done) | (simp [*]; done)), wa1 _ _⟩
end Go.Proofs.YtplommmegkdhdaaGreatDoor
/- The walk of patch.fits. -/
namespace Go.Proofs.YtplommmegkdhdaaGreatDoor
open Go.RowKit

abbrev pL (p : Pat) (pm : Pm) : Array Value := #[.int .i64 p.kind, .slice pm.p p.cls.length pm.pc, .int .i64 p.new.kind, .int .i64 p.new.role, .int .i64 p.new.act, .int .i64 p.new.need, .slice pm.A p.new.start.length pm.cap, .int .i64 p.new.aft, .int .i64 p.new.grace, .bool p.new.bus, .bool p.new.fin, .int .i64 p.new.pause, .int .i64 p.new.resume, .int .i64 p.new.v.1, .int .i64 p.new.v.2, .int .i64 p.new.unit, .int .i64 p.new.to_, .bool p.new.waived, .int .i64 p.days]
set_option maxRecDepth 100000 in
set_option maxHeartbeats 6400000 in
theorem fits_key (c : Con) (m : Cm) (p : Pat) (pm : Pm) (least most : Int) (rn sp : Bool) (f0 : Nat) (zz : Bool) (w : World) (hS : Seg w w.heap.size 1 eI pm.p p.cls) (hn : p.cls.length ≤ 1000000)
    (HZ : Hid (∀ W, Calls Tryz.prog 44 #[.agg #[.int .i64 p.new.kind, .int .i64 p.new.role, .int .i64 p.new.act, .int .i64 p.new.need, .slice pm.A p.new.start.length pm.cap, .int .i64 p.new.aft, .int .i64 p.new.grace, .bool p.new.bus, .bool p.new.fin, .int .i64 p.new.pause, .int .i64 p.new.resume, .int .i64 p.new.v.1, .int .i64 p.new.v.2, .int .i64 p.new.unit, .int .i64 p.new.to_, .bool p.new.waived]] W fun e w' => e = .returned (.bool zz) ∧ Below W.heap.size W w'))
    (R : Bool) (hR : Hid (R = (decide (least ≤ p.cls.length) && decide ((p.cls.length : Int) ≤ most) && incI c.cl.length (-1) p.cls && (rn || zz) && (if sp then decide (1 ≤ p.days) && decide (p.days ≤ 400) else p.days == 0)))) :
    Calls Tryz.prog 23 #[.agg (coA c m), .agg (pL p pm), .agg #[.int .i64 least, .int .i64 most, .bool rn, .bool sp, .func (.func f0) #[] #[]]] w fun e w' => e = .returned (.bool R) ∧ Below w.heap.size w w' := by
  have HS := Lib.hid hS
  clear hS
  go_enter Tryz.func23, Tryz.ntmps23
  go_upto_region 1 with (fail)
  refine name_wp ?_
  intro X hX
  have ga : Blk X w.heap.size 27 (coA c m) := by rw [hX]; exact ((blk_at (by simp)).alloc _).alloc _
  have gb : Blk X (w.heap.size + 1) 34 (pL p pm) := by rw [hX]; exact (blk_at (by simp)).alloc _
  have ge : Blk X (w.heap.size + 2) 62 #[.int .i64 least, .int .i64 most, .bool rn, .bool sp, .func (.func f0) #[] #[]] := by rw [hX]; exact blk_at (by simp)
  have HB : Hid (Below w.heap.size w X) := by unfold Hid; rw [hX]; (repeat (first | with_reducible assumption | with_reducible exact Below.refl _ _ | with_reducible refine below_drewN ?_ _ | with_reducible refine Below.drew ?_ | with_reducible refine below_alloc ?_ _ | with_reducible refine Below.setCell ?_ (by first | omega | (simp; done) | (simp; omega)) _ | with_reducible refine below_then ?_ (by with_reducible assumption) | (refine below_then (a := World.drew _) ?_ (by with_reducible assumption))))
  clear hX
  obtain ⟨be, eb⟩ : ∃ b, w.heap.size + 2 = b := ⟨_, rfl⟩
  rw [eb] at ge ⊢
  clear eb
  obtain ⟨bb, eb⟩ : ∃ b, w.heap.size + 1 = b := ⟨_, rfl⟩
  rw [eb] at gb ⊢
  clear eb
  obtain ⟨ba, eb⟩ : ∃ b, w.heap.size = b := ⟨_, rfl⟩
  rw [eb] at ga ⊢
  clear eb
  have k4 : X.cell? ⟨ba, 4, none⟩ = some (.slice m.k c.cl.length m.kc) := (ga).cell 4
  have j0 : X.cell? ⟨bb, 0, none⟩ = some (.int .i64 p.kind) := (gb).cell 0
  have j1 : X.cell? ⟨bb, 1, none⟩ = some (.slice pm.p p.cls.length pm.pc) := (gb).cell 1
  have j2 : X.cell? ⟨bb, 2, none⟩ = some (.int .i64 p.new.kind) := (gb).cell 2
  have j3 : X.cell? ⟨bb, 3, none⟩ = some (.int .i64 p.new.role) := (gb).cell 3
  have j4 : X.cell? ⟨bb, 4, none⟩ = some (.int .i64 p.new.act) := (gb).cell 4
  have j5 : X.cell? ⟨bb, 5, none⟩ = some (.int .i64 p.new.need) := (gb).cell 5
  have j6 : X.cell? ⟨bb, 6, none⟩ = some (.slice pm.A p.new.start.length pm.cap) := (gb).cell 6
  have j7 : X.cell? ⟨bb, 7, none⟩ = some (.int .i64 p.new.aft) := (gb).cell 7
  have j8 : X.cell? ⟨bb, 8, none⟩ = some (.int .i64 p.new.grace) := (gb).cell 8
  have j9 : X.cell? ⟨bb, 9, none⟩ = some (.bool p.new.bus) := (gb).cell 9
  have j10 : X.cell? ⟨bb, 10, none⟩ = some (.bool p.new.fin) := (gb).cell 10
  have j11 : X.cell? ⟨bb, 11, none⟩ = some (.int .i64 p.new.pause) := (gb).cell 11
  have j12 : X.cell? ⟨bb, 12, none⟩ = some (.int .i64 p.new.resume) := (gb).cell 12
  have j13 : X.cell? ⟨bb, 13, none⟩ = some (.int .i64 p.new.v.1) := (gb).cell 13
  have j14 : X.cell? ⟨bb, 14, none⟩ = some (.int .i64 p.new.v.2) := (gb).cell 14
  have j15 : X.cell? ⟨bb, 15, none⟩ = some (.int .i64 p.new.unit) := (gb).cell 15
  have j16 : X.cell? ⟨bb, 16, none⟩ = some (.int .i64 p.new.to_) := (gb).cell 16
  have j17 : X.cell? ⟨bb, 17, none⟩ = some (.bool p.new.waived) := (gb).cell 17
  have j18 : X.cell? ⟨bb, 18, none⟩ = some (.int .i64 p.days) := (gb).cell 18
  have i0 : X.cell? ⟨be, 0, none⟩ = some (.int .i64 least) := (ge).cell 0
  have i1 : X.cell? ⟨be, 1, none⟩ = some (.int .i64 most) := (ge).cell 1
  have i2 : X.cell? ⟨be, 2, none⟩ = some (.bool rn) := (ge).cell 2
  have i3 : X.cell? ⟨be, 3, none⟩ = some (.bool sp) := (ge).cell 3
  have i4 : X.cell? ⟨be, 4, none⟩ = some (.func (.func f0) #[] #[]) := (ge).cell 4
  by_cases p1 : (p.cls.length : Int) < least
  · have t1 := decide_eq_true p1
    have hf : Hid (R = false) := by unfold Hid; rw [hR.out, decide_eq_false (show ¬ least ≤ p.cls.length by omega)]; rfl
    go_wp2
    go_ret
    exact ⟨ret_bool hf.out.symm, HB.out⟩
  have t1 := decide_eq_false p1
  by_cases p2 : most < (p.cls.length : Int)
  · have t2 := decide_eq_true p2
    have hf : Hid (R = false) := by unfold Hid; rw [hR.out, decide_eq_false (show ¬ (p.cls.length : Int) ≤ most by omega)]; simp
    go_wp2
    go_ret
    exact ⟨ret_bool hf.out.symm, HB.out⟩
  have t2 := decide_eq_false p2
  have hR2 : Hid (R = (incI c.cl.length (-1) p.cls && (rn || zz) && (if sp then decide (1 ≤ p.days) && decide (p.days ≤ 400) else p.days == 0))) := by
    unfold Hid; rw [hR.out, decide_eq_true (show least ≤ p.cls.length by omega), decide_eq_true (show (p.cls.length : Int) ≤ most by omega)]; rfl
  clear hR
  go_upto_region 5 with (fail)
  have HS2 : Hid (Seg X X.heap.size 1 eI pm.p p.cls) := (HS.out.below HB.out).more HB.out.size
  clear p1 p2 t1 t2 HS
  go_loopw [27, 7] (fun y v WR => ∃ (n : Nat) (last : Int), n ≤ p.cls.length ∧ y = .int .i64 n ∧ v = .int .i64 last ∧ Hid (incI c.cl.length (-1) p.cls = incI c.cl.length last (p.cls.drop n)) ∧ WR = X) (fun y _ _ => 2000000 - (intOf y).toNat)
  case atStart => exact ⟨0, -1, by omega, rfl, rfl, rfl, rfl⟩
  case round =>
    obtain ⟨n, last, hn', rfl, rfl, hI, rfl⟩ := hrel
    by_cases hlt : n < p.cls.length
    · have tn : decide ((n : Int) < (p.cls.length : Int)) = true := decide_eq_true (by omega)
      obtain ⟨x, hx⟩ : ∃ x, p.cls[n]? = some x := ⟨_, List.getElem?_eq_getElem hlt⟩
      have hdr : p.cls.drop n = x :: p.cls.drop (n + 1) := by
        rw [List.drop_eq_getElem_cons hlt]
        rw [List.getElem?_eq_getElem hlt] at hx
        injection hx with hx
        rw [hx]
      obtain ⟨b0, o0, eA0, hb0, hc⟩ := segAt HS2.out hx
      have x0 : wr.cell? ⟨b0, o0 + n, none⟩ = some (.int .i64 x) := by simpa using hc 0 _ rfl
      have HD : Hid (incI c.cl.length (-1) p.cls = (decide (last < x) && decide (x < c.cl.length) && incI c.cl.length x (p.cls.drop (n + 1)))) := by unfold Hid; rw [hI.out, hdr]; rfl
      have hix := fun W => idx_at (t := 22) (size := 1) (cap := pm.pc) eA0 hlt (by kernel_rfl) (fun W => by kernel_rfl) W
      simp only [Nat.mul_one] at hix
      clear hc hx hdr hI eA0
      by_cases q1 : x ≤ last
      · have u1 := decide_eq_true q1
        have hf : Hid (R = false) := by unfold Hid; rw [hR2.out, HD.out, decide_eq_false (show ¬ last < x by omega)]; rfl
        clear q1
        go_wp2
        go_ret
        exact ⟨ret_bool hf.out.symm, HB.out⟩
      · have u1 := decide_eq_false q1
        by_cases q2 : (c.cl.length : Int) ≤ x
        · have u2 := decide_eq_true q2
          have hf : Hid (R = false) := by unfold Hid; rw [hR2.out, HD.out, decide_eq_false (show ¬ x < (c.cl.length : Int) by omega)]; simp
          clear q1 q2
          go_wp2
          go_ret
          exact ⟨ret_bool hf.out.symm, HB.out⟩
        · have u2 := decide_eq_false q2
          have HE : Hid (incI c.cl.length (-1) p.cls = incI c.cl.length x (p.cls.drop (n + 1))) := by unfold Hid; rw [HD.out, decide_eq_true (show last < x by omega), decide_eq_true (show x < (c.cl.length : Int) by omega)]; rfl
          clear q1 q2 HD
          go_wp2
          go_roundw
          case rel => exact ⟨n + 1, x, by omega, by simp, rfl, HE.out, by first | trivial | rfl⟩
          case measure => simp [intOf]; omega
    · have tn : decide ((n : Int) < (p.cls.length : Int)) = false := decide_eq_false (by omega)
      have hR3 : Hid (R = ((rn || zz) && (if sp then decide (1 ≤ p.days) && decide (p.days ≤ 400) else p.days == 0))) := by unfold Hid; rw [hR2.out, hI.out, List.drop_eq_nil_of_le (by omega)]; rfl
      clear hR2 hI HS2
      cases rn with
      | true =>
        cases sp with
        | true =>
          go_wp2
          all_goals go_ret
          all_goals exact ⟨ret_bool (by rw [hR3.out]; first | rfl | (simp [*]; done) | (simp_all; done) | (simp_all; omega)), HB.out⟩
        | false =>
          go_wp2
          go_ret
          exact ⟨ret_bool (by rw [hR3.out]; rfl), HB.out⟩
      | false =>
        cases zz with
        | false =>
          have hf : Hid (R = false) := by unfold Hid; rw [hR3.out]; rfl
          go_wp2_with (go_at_call 44; (with_reducible refine (HZ.out _).mono ?_); rintro e w1 ⟨rfl, hbw1⟩)
          go_ret
          exact ⟨ret_bool hf.out.symm, below_then HB.out hbw1⟩
        | true =>
          cases sp with
          | true =>
            go_wp2_with (go_at_call 44; (with_reducible refine (HZ.out _).mono ?_); rintro e w1 ⟨rfl, hbw1⟩; have z3 : w1.cell? ⟨be, 3, none⟩ = some (.bool true) := (ge.then_ hbw1).cell 3; have z18 : w1.cell? ⟨bb, 18, none⟩ = some (.int .i64 p.days) := (gb.then_ hbw1).cell 18)
            all_goals go_ret
            all_goals exact ⟨ret_bool (by rw [hR3.out]; first | rfl | (simp [*]; done) | (simp_all; done) | (simp_all; omega)), below_then HB.out hbw1⟩
          | false =>
            go_wp2_with (go_at_call 44; (with_reducible refine (HZ.out _).mono ?_); rintro e w1 ⟨rfl, hbw1⟩; have z3 : w1.cell? ⟨be, 3, none⟩ = some (.bool false) := (ge.then_ hbw1).cell 3; have z18 : w1.cell? ⟨bb, 18, none⟩ = some (.int .i64 p.days) := (gb.then_ hbw1).cell 18)
            go_ret
            exact ⟨ret_bool (by rw [hR3.out]; rfl), below_then HB.out hbw1⟩
end Go.Proofs.YtplommmegkdhdaaGreatDoor
/- The walk of patch.effects: the map of the five effects, written out; a look-up in it. -/
namespace Go.Proofs.YtplommmegkdhdaaGreatDoor
open Go.RowKit

section
variable {P : Program}
/-- a store of a new integer key -/
theorem wpList_upd_new (w : World) {ops : Array Oper} {rest : List Oper} {o : Oper} {a : Act} {Q : Exit → Act → World → Prop}
    (hg : o.guard = none) (m x v : Operand) (t : TypeId) (hop : o.op = Op.insert t m x v) (k e : TypeId) (ht : P.underlying t = some (.map k e)) (hi : P.underlying k = some (.int .i64))
    (b : Nat) (es : Array MapEntry) (clock : Nat) (hb : w.heap[b]? = some (.map es clock)) (hm : a.eval m = .map (some b)) (key : Int) (val : Value) (hx : a.eval x = .int .i64 key) (hv : a.eval v = val)
    (hf : Instr.findNow (.int .i64) (.int .i64 key) es.toList 0 = some none)
    (hK : ∀ w', w'.heap[b]? = some (.map (es.push { key := .int .i64 key, val := val, born := clock }) (clock + 1)) → Below b w w' → wpList P ops Q rest (a.put o.dst undef) w') :
    wpList P ops Q (o :: rest) a w := by
  refine wpList_plain hg fun K' hK' => ?_
  have hs := MapKept.heap_set (o' := .map (es.push { key := .int .i64 key, val := val, born := clock }) (clock + 1)) hb
  have hrun : (Instr.mapUpdate t (.map (some b)) (.int .i64 key) val).run P w = .ok () { w with heap := w.heap.setIfInBounds b (.map (es.push { key := .int .i64 key, val := val, born := clock }) (clock + 1)) } := by
    have hk : MapKept.IsKey (.int .i64) (.int .i64 key) := by simp [MapKept.IsKey]
    simp [Instr.mapUpdate, run_underlying ht, MapKept.run_getObj_map hb, MapKept.run_checkKey hi hk, MapKept.run_findKey hi hf, MapKept.run_setObj_map _ hb, Result.andThen]
  unfold Oper.wp
  simp [execOp, hop, hm, hx, hv, hrun, Result.andThen]
  exact hK' _ _ (hK _ hs.1 ⟨rfl, rfl, rfl, by simp, fun i hi => hs.2 i (by omega)⟩)
/-- a look-up with 'ok' -/
theorem run_look {w : World} {t k e : TypeId} (ht : P.underlying t = some (.map k e)) (hi : P.underlying k = some (.int .i64)) {b : Nat} {es : Array MapEntry} {clock : Nat} (hb : w.heap[b]? = some (.map es clock)) (key : Int)
    (z : Value) (hz : ∀ w, (zeroValue e).run P w = .ok z w) (r : Option (Nat × Value)) (hf : Instr.findNow (.int .i64) (.int .i64 key) es.toList 0 = some r) :
    (Instr.lookup t (.map (some b)) (.int .i64 key) true).run P w = .ok (.tuple #[(match r with | some x => x.2 | none => z), .bool r.isSome]) w := by
  have hk : MapKept.IsKey (.int .i64) (.int .i64 key) := by simp [MapKept.IsKey]
  cases r with
  | none => simp [Instr.lookup, run_underlying ht, MapKept.run_getObj_map hb, MapKept.run_checkKey hi hk, MapKept.run_findKey hi hf, hz, Result.andThen]
  | some r => simp [Instr.lookup, run_underlying ht, MapKept.run_getObj_map hb, MapKept.run_checkKey hi hk, MapKept.run_findKey hi hf, Result.andThen]
end
def efA (least most : Int) (rn sp : Bool) (f : Nat) : Value := .agg #[.int .i64 least, .int .i64 most, .bool rn, .bool sp, .func (.func f) #[] #[]]
def efs : Array MapEntry := #[⟨.int .i64 1, efA 0 0 true false 41, 0⟩, ⟨.int .i64 2, efA 1 1 true false 42, 1⟩, ⟨.int .i64 3, efA 1 1 false false 40, 2⟩, ⟨.int .i64 4, efA 1 400 false false 40, 3⟩, ⟨.int .i64 5, efA 1 400 false true 43, 4⟩]
theorem zero_eff (w : World) : (zeroValue 62).run Tryz.prog w = .ok (.agg #[.int .i64 0, .int .i64 0, .bool false, .bool false, .nilFunc]) w := by kernel_rfl
def doF (k : Int) : Nat := if k = 1 then 41 else if k = 2 then 42 else if k = 5 then 43 else 40
theorem look_known {W : World} {r : Nat} (hb : W.heap[r]? = some (.map efs 5)) (k : Int) (hk : known k = true) :
    (Instr.lookup 64 (.map (some r)) (.int .i64 k) true).run Tryz.prog W = .ok (.tuple #[efA (fewest k) (mostN k) (k == 1 || k == 2) (k == 5) (doF k), .bool true]) W := by
  have h : k = 1 ∨ k = 2 ∨ k = 3 ∨ k = 4 ∨ k = 5 := by
    unfold known at hk
    simp only [Bool.or_eq_true, beq_iff_eq] at hk
    omega
  rcases h with rfl | rfl | rfl | rfl | rfl
  · exact run_look Tryz.underlying64 Tryz.underlying3 hb 1 _ zero_eff (some (0, _)) rfl
  · exact run_look Tryz.underlying64 Tryz.underlying3 hb 2 _ zero_eff (some (1, _)) rfl
  · exact run_look Tryz.underlying64 Tryz.underlying3 hb 3 _ zero_eff (some (2, _)) rfl
  · exact run_look Tryz.underlying64 Tryz.underlying3 hb 4 _ zero_eff (some (3, _)) rfl
  · exact run_look Tryz.underlying64 Tryz.underlying3 hb 5 _ zero_eff (some (4, _)) rfl
theorem look_unknown {W : World} {r : Nat} (hb : W.heap[r]? = some (.map efs 5)) (k : Int) (hk : known k = false) :
    (Instr.lookup 64 (.map (some r)) (.int .i64 k) true).run Tryz.prog W = .ok (.tuple #[.agg #[.int .i64 0, .int .i64 0, .bool false, .bool false, .nilFunc], .bool false]) W := by
  have h : k ≠ 1 ∧ k ≠ 2 ∧ k ≠ 3 ∧ k ≠ 4 ∧ k ≠ 5 := by
    unfold known at hk
    simp only [Bool.or_eq_false_iff, beq_eq_false_iff_ne] at hk
    omega
  refine run_look Tryz.underlying64 Tryz.underlying3 hb _ _ zero_eff none ?_
  have b1 := beq_false_of_ne h.1
  have b2 := beq_false_of_ne h.2.1
  have b3 := beq_false_of_ne h.2.2.1
  have b4 := beq_false_of_ne h.2.2.2.1
  have b5 := beq_false_of_ne h.2.2.2.2
  simp [efs, Instr.findNow, Instr.sameNow, b1, b2, b3, b4, b5]
set_option maxRecDepth 100000 in
set_option maxHeartbeats 6400000 in
theorem effects_any (w : World) : Calls Tryz.prog 22 #[] w fun e w' => ∃ r, e = .returned (.map (some r)) ∧ w'.heap[r]? = some (.map efs 5) ∧ Below w.heap.size w w' := by
  have hmm := @run_makeMap Tryz.prog
  have hze := zero_eff
  go_enter Tryz.func22, Tryz.ntmps22
  go_upto_region 2 with (fail)
  refine name_wp ?_
  intro X hX
  go_wp2_with (refine wpList_upd_new _ rfl _ _ _ 64 rfl 3 62 Tryz.underlying64 Tryz.underlying3 w.heap.size _ _ (by first | assumption | exact (MapKept.heap_alloc _ _).1) rfl _ _ rfl rfl rfl ?_; intro w1 hm1 hb1)
  rename_i wa ha ba wb hb bb wc hc bc wd hd bd
  subst hX
  go_ret
  exact ⟨_, rfl, hm1, (((((Below.alloc (Below.refl _ _) (Nat.le_refl _) _).trans ba).trans bb).trans bc).trans bd).trans hb1⟩
end Go.Proofs.YtplommmegkdhdaaGreatDoor
/- The walk of patch.copied. -/
namespace Go.Proofs.YtplommmegkdhdaaGreatDoor
open Go.RowKit

abbrev kZ : List Value := [.int .i64 0, .int .i64 0, .int .i64 0, .int .i64 0, .slice none 0 0, .int .i64 0, .int .i64 0, .bool false, .bool false, .int .i64 0, .int .i64 0, .int .i64 0, .int .i64 0, .int .i64 0, .int .i64 0, .bool false]
theorem own_ne {α : Type} {w : World} {B : Nat} {T : TypeId} {size : Nat} {enc : α → List Value} {v : Value} {xs : List α} (h : Own w B T size enc v xs) {p : Nat} (hp : p < B) : ∀ k, v.ownBlock = some k → k ≠ p := fun k hk => by
  have := (World.ownsRow.lt h k hk).1
  omega
set_option maxRecDepth 100000 in
set_option maxHeartbeats 3200000 in
theorem copied_any (x : Km) (w : World) (h : KOk w x) :
    Calls Tryz.prog 24 #[.agg (kA x)] w fun e w' => (∃ A c, e = .returned (.agg (kA ⟨x.k, A, c⟩)) ∧ Own w' w.heap.size 76 2 eS (.slice A x.k.start.length c) x.k.start ∧ x.k.start.length ≤ c) ∧ Below w.heap.size w w' := by
  have HC := Lib.hid (fun W (hb : Below w.heap.size w W) => clone_con x.A x.cap x.k.start W h.n ((h.s.below hb).more hb.size) h.c)
  clear h
  go_enter Tryz.func24, Tryz.ntmps24
  go_upto_region 1 with (fail)
  refine name_wp ?_
  intro X hX
  have ga : Blk X w.heap.size 32 (kA x) := by rw [hX]; exact (blk_at (by simp)).alloc _
  have gR : Blk X (w.heap.size + 1) 32 kZ.toArray := by rw [hX]; exact blk_at (by simp)
  have HB : Below w.heap.size w X := by rw [hX]; (repeat (first | with_reducible assumption | with_reducible exact Below.refl _ _ | with_reducible refine below_drewN ?_ _ | with_reducible refine Below.drew ?_ | with_reducible refine below_alloc ?_ _ | with_reducible refine Below.setCell ?_ (by first | omega | (simp; done) | (simp; omega)) _ | with_reducible refine below_then ?_ (by with_reducible assumption) | (refine below_then (a := World.drew _) ?_ (by with_reducible assumption))))
  clear hX
  obtain ⟨bR, eR⟩ : ∃ b, w.heap.size + 1 = b := ⟨_, rfl⟩
  have lR : w.heap.size ≤ bR := by omega
  have lne : w.heap.size ≠ bR := by omega
  rw [eR] at gR ⊢
  clear eR
  obtain ⟨ba, ea⟩ : ∃ b, w.heap.size = b := ⟨_, rfl⟩
  have la : w.heap.size ≤ ba := by omega
  rw [ea] at ga lne ⊢
  clear ea
  have c4 : X.cell? ⟨ba, 4, none⟩ = some (.slice x.A x.k.start.length x.cap) := ga.cell 4
  go_upto_region 2 with (go_at_call 45; (with_reducible refine (HC.out _ HB).mono ?_); rintro e w1 ⟨⟨v, rfl, hown⟩, hbw1⟩; obtain ⟨A', c', rfl, hc', hseg⟩ := hown.seg eS_len; have d4 : w1.cell? ⟨ba, 4, none⟩ = some (.slice x.A x.k.start.length x.cap) := (ga.then_ hbw1).cell 4; have f4 : w1.frozen? ⟨ba, 4, none⟩ = false := (ga.then_ hbw1).frozen 4)
  refine name_wp ?_
  intro Y hY
  have gY : Blk Y ba 32 (kA ⟨x.k, A', c'⟩) := by rw [hY]; exact (ga.then_ hbw1).set_ 4 _
  have gR2 : Blk Y bR 32 kZ.toArray := by rw [hY]; exact (gR.then_ hbw1).far (by simp; omega) _
  have HY : Below w.heap.size w Y := by rw [hY]; exact (below_then HB hbw1).setCell (p := ⟨ba, 4, none⟩) la _
  have hO : Own Y X.heap.size 76 2 eS (.slice A' x.k.start.length c') x.k.start := by rw [hY]; exact hown.setNe (own_ne hown ga.lt) _
  have lX := HB.size
  have lRX := gR.lt
  clear hY hown hbw1 ga gR c4 d4 f4 hseg HC
  have lY := gY.lt
  go_wp2_with (first | (refine wpList_row_w (by rfl) 32 _ rfl ba rfl 32 _ gY ⟨_, Tryz.underlying32⟩ (by kernel_rfl) ?_; simp only [Act.put, List.setIfInBounds_toArray, List.set_cons_succ, List.set_cons_zero]) | (refine wpList_store_blk rfl 32 _ _ rfl rfl bR 32 [] kZ [] (kA ⟨x.k, A', c'⟩).toList rfl rfl gR2 rfl (by kernel_rfl) (by simp [Value.oneCell']) ?_))
  have hk : Blk (Y.setCells bR 0 (kA ⟨x.k, A', c'⟩).toList) bR 32 (kA ⟨x.k, A', c'⟩) := setCells_blk (kA ⟨x.k, A', c'⟩).toList [] kZ [] Y rfl gR2
  refine bodyPost_ret (ret_row rfl rfl hk ⟨_, Tryz.underlying32⟩ (by kernel_rfl)) rfl ⟨⟨A', c', rfl, ?_, hc'⟩, setCells_below lR _ _ _ HY⟩
  have key : ∀ (vs : List Value) (o : Nat) (W : World), Own W X.heap.size 76 2 eS (.slice A' x.k.start.length c') x.k.start → Own (W.setCells bR o vs) X.heap.size 76 2 eS (.slice A' x.k.start.length c') x.k.start := by
    intro vs
    induction vs with
    | nil => intro o W h; exact h
    | cons u vs ih => intro o W h; exact ih (o + 1) _ (h.setNe (own_ne h lRX) _)
  exact (key _ _ _ hO).more lX
end Go.Proofs.YtplommmegkdhdaaGreatDoor
/- Some cells of an element of a slice of the call's own stored; a slice made with room for one more. -/
namespace Go.Proofs.YtplommmegkdhdaaGreatDoor
open Go.RowKit

def setL : List Value → Nat → List Value → List Value
  | l, _, [] => l
  | l, i, v :: vs => setL (l.set i v) (i + 1) vs
theorem setL_left (r : List Value) : ∀ (vs l : List Value) (i : Nat), i + vs.length ≤ l.length → setL (l ++ r) i vs = setL l i vs ++ r
  | [], l, i, _ => rfl
  | v :: vs, l, i, h => by
    simp only [List.length_cons] at h
    simp only [setL]
    rw [List.set_append_left _ _ (by omega), setL_left r vs _ _ (by rw [List.length_set]; omega)]
theorem setL_right (l : List Value) : ∀ (vs r : List Value) (i : Nat), setL (l ++ r) (l.length + i) vs = l ++ setL r i vs
  | [], r, i => rfl
  | v :: vs, r, i => by
    simp only [setL]
    rw [List.set_append_right _ _ (by omega), show l.length + i - l.length = i by omega, Nat.add_assoc, setL_right l vs _ (i + 1)]
theorem setL_flat {α : Type} {enc : α → List Value} {size : Nat} (he : ∀ x, (enc x).length = size) {y : α} {j : Nat} {vs : List Value} : ∀ (xs : List α) (k : Nat) (x : α), xs[k]? = some x → enc y = setL (enc x) j vs → j + vs.length ≤ size → setL (xs.flatMap enc) (k * size + j) vs = (xs.set k y).flatMap enc
  | [], k, x, h, _, _ => by simp at h
  | z :: xs, 0, x, h, hy, hj => by
    simp at h; subst h
    simp only [List.flatMap_cons, List.set_cons_zero, Nat.zero_mul, Nat.zero_add, hy]
    rw [setL_left _ _ _ _ (by rw [he]; exact hj)]
  | z :: xs, k + 1, x, h, hy, hj => by
    have ih := setL_flat he xs k x (by simpa using h) hy hj
    simp only [List.flatMap_cons, List.set_cons_succ]
    rw [show (k + 1) * size + j = (enc z).length + (k * size + j) by rw [he, Nat.add_mul]; omega, setL_right, ih]
section
variable {α : Type} {w : World} {B : Nat} {T : TypeId} {size : Nat} {enc : α → List Value} {xs : List α} {g n cap : Nat}
theorem ownsRow_setCells : ∀ (vs : List Value) (i : Nat) (w : World) (cur : List Value), w.ownsRow B T size (.slice (some ⟨g, 0, none⟩) n cap) n cur → (w.setCells g i vs).ownsRow B T size (.slice (some ⟨g, 0, none⟩) n cap) n (setL cur i vs)
  | [], _, _, _, h => h
  | v :: vs, i, w, cur, h => by
    simp only [World.setCells, setL]
    exact ownsRow_setCells vs (i + 1) _ _ (World.ownsRow.stored h i v).1
/-- some cells of an element stored -/
theorem Own.setPart (h : Own w B T size enc (.slice (some ⟨g, 0, none⟩) n cap) xs) (he : ∀ x, (enc x).length = size) (hn : xs.length = n) {k j : Nat} {x y : α} {vs : List Value} (hx : xs[k]? = some x) (hj : j + vs.length ≤ size) (hy : enc y = setL (enc x) j vs) :
    Own (w.setCells g (k * size + j) vs) B T size enc (.slice (some ⟨g, 0, none⟩) n cap) (xs.set k y) := by
  unfold Own at h ⊢
  rw [hn] at h
  have h1 := ownsRow_setCells vs (k * size + j) _ _ h
  rw [List.length_set, hn, ← setL_flat he xs k x hx hy hj]
  exact h1
theorem Own.there (h : Own w B T size enc (.slice (some ⟨g, 0, none⟩) n cap) xs) (he : ∀ x, (enc x).length = size) (hn : xs.length = n) {k j c : Nat} {x : α} (hx : xs[k]? = some x) (hj : j + c ≤ size) : w.there g (k * size + j) c := by
  intro i hi
  obtain ⟨h1, h2⟩ := h.getAt he hn hx (j := j + i) (by omega)
  rw [Nat.add_assoc]
  refine ⟨?_, h2⟩
  rw [h1, List.getElem?_eq_getElem (by rw [he]; omega)]
  rfl
theorem Own.lt_ (h : Own w B T size enc (.slice (some ⟨g, 0, none⟩) n cap) xs) : B ≤ g ∧ g < w.heap.size := by
  rcases h.2 with ⟨h1, hl⟩ | ⟨g', cap', cur, hv', hg, hh, _⟩
  · cases h1
  · cases hv'
    exact ⟨hg, (Array.getElem?_eq_some_iff.1 hh).1⟩
theorem Own.segA {A : Option Addr} (h : Own w B T size enc (.slice A n cap) xs) (he : ∀ x, (enc x).length = size) : Seg w w.heap.size size enc A xs := by
  obtain ⟨A', c', e, _, h1⟩ := h.seg he
  cases e
  exact h1
theorem Own.ne_ {v : Value} (h : Own w B T size enc v xs) {p : Nat} (hp : p < B) : ∀ k, v.ownBlock = some k → k ≠ p := by
  intro k hk
  rcases h.2 with ⟨h1, _⟩ | ⟨g', cap', cur, hv', hg, _⟩
  · rw [h1] at hk; cases hk
  · rw [hv'] at hk; cases hk; show g' ≠ p; omega
end
/-- a struct stored into some cells that are there -/
theorem wpList_store_part {P : Program} {ops : Array Oper} {Q : Exit → Act → World → Prop} {a : Act} {w : World} {rest : List Oper} {o : Oper} (hgd : o.guard = none) (ty : TypeId) (x y : Operand) (ho : o.op = .store ty x y) (hd : o.dst = none) (b i : Nat) (cs : List Value)
    (hx : a.eval x = .pointer (some ⟨b, i, none⟩)) (hy : a.eval y = .agg cs.toArray) (ht : w.there b i cs.length) (hi : (P.info? ty).map (·.size) = some cs.length) (h1 : ∀ v ∈ cs, v.oneCell' = true)
    (h : wpList P ops Q rest a (w.setCells b i cs)) : wpList P ops Q (o :: rest) a w := by
  refine wpList_store_mid hgd ty x y ho b i cs.toArray hx hy (by simpa using ht) (by simpa using hi) (all_oneCell_toArray h1) ?_
  rw [hd, List.toList_toArray]
  exact h
theorem mem_set {α : Type} {l : List α} {P : α → Prop} (h : ∀ y ∈ l, P y) (i : Nat) {x : α} (hx : P x) : ∀ y ∈ l.set i x, P y := fun y hy => (List.mem_or_eq_of_mem_set hy).elim (h y) (fun e => e ▸ hx)
theorem made_flat {α : Type} {enc : α → List Value} {size : Nat} (he : ∀ x, (enc x).length = size) (h0 : 0 < size) (y : α) (n : Nat) : (madeCells (enc y).toArray (n * size)).toList = (List.replicate n y).flatMap enc := by
  refine List.ext_getElem? fun j => ?_
  by_cases hj : j < n * size
  · have hk : j / size < n := Nat.div_lt_of_lt_mul (by rwa [Nat.mul_comm])
    have e1 : j / size * size + j % size = j := by rw [Nat.mul_comm]; exact Nat.div_add_mod j size
    have hr : j % size < size := Nat.mod_lt _ h0
    have e2 := getElem?_flatMap (enc := enc) he (List.replicate n y) (j / size) (j % size) y (by simp [hk]) hr
    rw [e1] at e2
    rw [e2]
    have hr' : j % size < (enc y).length := by rw [he]; exact hr
    simp [madeCells, he, hj, List.getElem?_eq_getElem hr']
  · rw [List.getElem?_eq_none (by simp [size_madeCells]; omega), List.getElem?_eq_none (by rw [flat_len he]; simp; omega)]
/-- 'make([]T, n, n + r)': n zero elements, room for r more -/
theorem wpList_make_room {P : Program} {α : Type} (w : World) {ops : Array Oper} {rest : List Oper} {o : Oper} {a : Act} {Q : Exit → Act → World → Prop} (hg : o.guard = none) (l c : Operand) (t : TypeId) (hop : o.op = Op.makeSlice t l c)
    (base : Nat) (e : TypeId) (i : TypeInfo) (z : Value) (size bytes : Nat) (h1 : P.underlying t = some (.slice e)) (h2 : P.info? e = some i) (h3 : i.zero = some z) (h4 : i.size = size) (h5 : i.bytes = bytes) (hsz : 0 < size) (hby : bytes ≤ 100000)
    (enc : α → List Value) (he : ∀ y, (enc y).length = size) (y : α) (hy : z.cells = (enc y).toArray) (n r : Nat) (L C : Int) (hl : a.eval l = .int .i64 L) (hc : a.eval c = .int .i64 C) (hL : L = (n : Int)) (hC : C = (n : Int) + r) (hn : n + r ≤ 2000000) (b4 : base ≤ w.heap.size)
    (hK : ∀ w', Own w' base e size enc (.slice (some ⟨w.heap.size, 0, none⟩) n (n + r)) (List.replicate n y) → Below w.heap.size w w' → w.heap.size < w'.heap.size → wpList P ops Q rest (a.put o.dst (.slice (some ⟨w.heap.size, 0, none⟩) n (n + r))) w') :
    wpList P ops Q (o :: rest) a w := by
  refine wpList_plain hg fun K hK' => ?_
  subst hL hC
  have hb : (bytes : Int) * ((n : Int) + r) ≤ 281474976710656 := by
    have h1 : bytes * (n + r) ≤ 100000 * 2000000 := Nat.mul_le_mul hby hn
    have h2 : ((bytes * (n + r) : Nat) : Int) ≤ ((100000 * 2000000 : Nat) : Int) := by exact_mod_cast h1
    have h3 : (bytes : Int) * ((n : Int) + r) = ((bytes * (n + r) : Nat) : Int) := by simp
    rw [h3]
    exact Int.le_trans h2 (by decide)
  have hrun := run_make (P := P) w t e i z h1 h2 h3 .i64 .i64 n (n + r) (by omega) (by omega) (by rw [h5]; exact hb) (by omega)
  have e1 : ((n : Int) + r).toNat = n + r := by omega
  have e2 : ((n : Int)).toNat = n := by omega
  rw [e1, e2, h4, hy] at hrun
  unfold Oper.wp
  simp only [execOp, hop, hl, hc, Sem.run_bind, hrun, Result.andThen_ok]
  refine hK' _ _ (hK _ ?_ (wa1 _ _) (by simp))
  unfold Own
  rw [List.length_replicate]
  refine ⟨by rw [flat_len he]; simp, .inr ⟨w.heap.size, n + r, _, rfl, b4, heap_alloc_new w _, by omega, by unfold maxLen; omega, size_madeCells _ _, ?_⟩⟩
  rw [made_flat he hsz, ← List.replicate_append_replicate, List.flatMap_append, List.take_left' (by rw [flat_len he]; simp)]
end Go.Proofs.YtplommmegkdhdaaGreatDoor
