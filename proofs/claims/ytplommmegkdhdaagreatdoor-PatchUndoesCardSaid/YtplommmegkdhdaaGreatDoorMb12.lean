/- Contracts of functions and plain laws, joined: Kbh, Kbi, Pk2, Kc1, Kc2, Kc3. -/
import Derived.Test.YtplommmegkdhdaaGreatDoorMb11
import Derived.Test.YtplommmegkdhdaaGreatDoorMb10
import Derived.Test.YtplommmegkdhdaaGreatDoorMb9
import Derived.Test.YtplommmegkdhdaaGreatDoorMb4
import Derived.Test.YtplommmegkdhdaaGreatDoorMb2
/- The walk of the effect that replaces a clause. -/
namespace Go.Proofs.YtplommmegkdhdaaGreatDoor
open Go.RowKit

set_option maxRecDepth 100000 in
set_option maxHeartbeats 3200000 in
theorem repl_any (p : Pat) (pm : Pm) (ks : List Km) (B g cap : Nat) (w : World) (hp : p.kind = 2) (hL : Lst w B (.slice (some ⟨g, 0, none⟩) ks.length cap) ks) (hS : Seg w B 1 eI pm.p p.cls) (hK : KOk w ⟨p.new, pm.A, pm.cap⟩) (h1 : p.cls.length = 1) (hI : incI ks.length (-1) p.cls = true) :
    Calls Tryz.prog 42 #[.slice (some ⟨g, 0, none⟩) ks.length cap, .agg (pL p pm)] w fun e w' => Done p ks B w e w' := by
  obtain ⟨x, hx⟩ : ∃ x, p.cls = [x] := by
    match hc : p.cls, h1 with
    | [x], _ => exact ⟨x, rfl⟩
  have hb := incI_mem2 hI (by omega) x (by rw [hx]; exact List.mem_singleton.2 rfl)
  obtain ⟨i, rfl⟩ : ∃ i : Nat, x = i := ⟨x.toNat, by omega⟩
  have hi : i < ks.length := by omega
  have HL := Lib.hid hL
  have hg := hL.own.lt_
  have HD : Hid (∀ y : Km, y.k = p.new → (ks.set i y).map (·.k) = p.do_ (ks.map (·.k))) := by
    unfold Hid Pat.do_
    intro y hy
    rw [hp, hx]
    have ho : ∀ k, p.one k = p.new := by intro k; unfold Pat.one; rw [hp]; rfl
    simp only [List.map_set, hy]
    obtain ⟨z, hz⟩ : ∃ z, (ks.map (·.k))[i]? = some z := ⟨_, List.getElem?_eq_getElem (by simpa using hi)⟩
    have := modify_set (f := p.one) (ks.map (·.k)) i z hz
    rw [ho] at this
    simpa using this.symm
  have HC := Lib.hid (fun W (hb : Below w.heap.size w W) => copied_any ⟨p.new, pm.A, pm.cap⟩ W (hK.then_ hb))
  have HV : Hid (I64 p.new.v.1 ∧ I64 p.new.v.2) := hK.v
  have HM : Hid (p.new.start.length ≤ 1000000) := hK.n
  obtain ⟨b0, o0, eA0, hb0, hc0⟩ := segAt hS (k := 0) (x := (i : Int)) (by rw [hx]; rfl)
  have x0 : w.cell? ⟨b0, o0, none⟩ = some (.int .i64 i) := by simpa using hc0 0 _ rfl
  have hix : ∀ W, (Instr.indexAt 22 (.slice pm.p 1 pm.pc) (.int .i64 0)).run Tryz.prog W = .ok (.pointer (some ⟨b0, o0, none⟩)) W := fun W => by
    have h := idx_at (t := 22) (size := 1) (cap := pm.pc) (len := 1) (k := 0) eA0 (by omega) (by kernel_rfl) (fun W => by kernel_rfl) W
    simpa using h
  have hiy := fun W => idx_at (t := 25) (size := 16) (cap := cap) (A := some ⟨g, 0, none⟩) (len := ks.length) rfl hi (by kernel_rfl) (fun W => by kernel_rfl) W
  simp only [Nat.zero_add] at hiy
  have j1' : Hid ((pL p pm)[1]? = some (.slice pm.p 1 pm.pc)) := by unfold Hid; simp [h1]
  obtain ⟨z, hz⟩ : ∃ z, ks[i]? = some z := ⟨_, List.getElem?_eq_getElem hi⟩
  have HZ := Lib.hid hz
  clear hL hp hK hx hb hc0 eA0 hI hS h1 hz
  go_enter Tryz.func42, Tryz.ntmps42
  go_upto_region 1 with (fail)
  refine name_wp ?_
  intro X hX
  have gbb : Blk X w.heap.size 34 (pL p pm) := by rw [hX]; exact blk_at (by simp)
  have HB : Below w.heap.size w X := by rw [hX]; (repeat (first | with_reducible assumption | with_reducible exact Below.refl _ _ | with_reducible refine below_drewN ?_ _ | with_reducible refine Below.drew ?_ | with_reducible refine below_alloc ?_ _ | with_reducible refine Below.setCell ?_ (by first | omega | (simp; done) | (simp; omega)) _ | with_reducible refine below_then ?_ (by with_reducible assumption) | (refine below_then (a := World.drew _) ?_ (by with_reducible assumption))))
  clear hX
  obtain ⟨bb, ebb⟩ : ∃ b, w.heap.size = b := ⟨_, rfl⟩
  have lbb : w.heap.size ≤ bb := by omega
  rw [ebb] at gbb ⊢
  clear ebb
  have y0 : X.cell? ⟨b0, o0, none⟩ = some (.int .i64 i) := by rw [← x0]; exact HB.cell (p := ⟨b0, o0, none⟩) (by show b0 < _; omega)
  have lX := HB.size
  have j1 : X.cell? ⟨bb, 1, none⟩ = some (.slice pm.p 1 pm.pc) := (gbb.cell 1).trans j1'.out
  refine wp_region_hb (fun w' => Below X.heap.size X w') [0, 1, 2, 3, 4, 5, 6, 7] [8, 9] (by kernel_rfl) (by kernel_rfl) (by repeat (first | with_reducible refine panOk_then ?_ | with_reducible refine panOk_block ?_ | exact panOk_body)) (Below.drew (Below.refl _ _)) (fun hdir hsel hpan hHeld => ?_)
  refine wpHB_take (i := 0) (oi := ⟨some 5, _, _, _, _, _⟩) hdir hsel hpan rfl (by kernel_rfl) (by kernel_rfl) (by kernel_rfl) (Or.inl ⟨by rfl, fun _ _ => by rfl⟩) (by assumption) ?_
  try simp only [Act.put, List.setIfInBounds_toArray, List.set_cons_zero, List.set_cons_succ]
  refine wpHB_take (i := 1) (oi := ⟨some 6, _, _, _, _, _⟩) hdir hsel hpan rfl (by kernel_rfl) (by kernel_rfl) (by kernel_rfl) (Or.inl ⟨by rfl, fun _ _ => by rfl⟩) (by assumption) ?_
  try simp only [Act.put, List.setIfInBounds_toArray, List.set_cons_zero, List.set_cons_succ]
  refine wpHB_take (i := 2) (oi := ⟨some 7, _, _, _, _, _⟩) (v := .slice pm.p 1 pm.pc) hdir hsel hpan rfl (by kernel_rfl) (by kernel_rfl) (by kernel_rfl) (Or.inl ⟨by rfl, fun w hw => by have hc := (hw.cell (p := ⟨bb, 1, none⟩) gbb.lt).trans j1; go_simp⟩) (by assumption) ?_
  try simp only [Act.put, List.setIfInBounds_toArray, List.set_cons_zero, List.set_cons_succ]
  refine wpHB_take (i := 3) (oi := ⟨some 8, _, _, _, _, _⟩) (v := .pointer (some ⟨b0, o0, none⟩)) hdir hsel hpan rfl (by kernel_rfl) (by kernel_rfl) (by kernel_rfl) (Or.inl ⟨by rfl, fun w hw => by have h := hix w; go_simp⟩) (by assumption) ?_
  try simp only [Act.put, List.setIfInBounds_toArray, List.set_cons_zero, List.set_cons_succ]
  refine wpHB_take (i := 4) (oi := ⟨some 9, _, _, _, _, _⟩) (v := .int .i64 i) hdir hsel hpan rfl (by kernel_rfl) (by kernel_rfl) (by kernel_rfl) (Or.inl ⟨by rfl, fun w hw => by have hc := (hw.cell (p := ⟨b0, o0, none⟩) (show b0 < X.heap.size by omega)).trans y0; go_simp⟩) (by assumption) ?_
  try simp only [Act.put, List.setIfInBounds_toArray, List.set_cons_zero, List.set_cons_succ]
  refine wpHB_take (i := 5) (oi := ⟨some 10, _, _, _, _, _⟩) hdir hsel hpan rfl (by kernel_rfl) (by kernel_rfl) (by kernel_rfl) (Or.inl ⟨by rfl, fun _ _ => by rfl⟩) (by assumption) ?_
  try simp only [Act.put, List.setIfInBounds_toArray, List.set_cons_zero, List.set_cons_succ]
  refine wpHB_take (i := 6) (oi := ⟨some 11, _, _, _, _, _⟩) hdir hsel hpan rfl (by kernel_rfl) (by kernel_rfl) (by kernel_rfl) (yieldsIf_load_mid (by rfl) 32 _ rfl bb _ rfl (kL ⟨p.new, pm.A, pm.cap⟩) _ (fun w hw => Blk.range (pre := [.int .i64 p.kind, .slice pm.p p.cls.length pm.pc]) (mid := kL ⟨p.new, pm.A, pm.cap⟩) (post := [.int .i64 p.days]) (gbb.then_ hw)) Tryz.underlying32 rfl (by kernel_rfl)) (by assumption) ?_
  try simp only [Act.put, List.setIfInBounds_toArray, List.set_cons_zero, List.set_cons_succ]
  refine wpHB_ready (rs := [7]) (by kernel_rfl) (by simp) ?_
  refine AllHB.cons (by kernel_rfl) (o := ⟨some 12, _, _, _, _, _⟩) rfl (fun K hK => ?_) AllHB.nil
  go_simp
  (go_at_call 24; (with_reducible refine (HC.out _ (below_then HB hHeld)).mono ?_); rintro e w1 ⟨⟨A', c', rfl, hO, hc'⟩, hbw1⟩)
  obtain ⟨W0, hW0⟩ : ∃ W, X.drew = W := ⟨_, rfl⟩
  rw [hW0] at hO hbw1
  have hHeld0 : Below X.heap.size X W0 := by rw [← hW0]; exact hHeld
  refine hK.out _ _ (below_then hHeld0 hbw1) (fun hHeld2 => ?_)
  clear hK K hHeld
  have hHeld := hHeld2
  clear hHeld2
  try simp only
  refine wpHB_tail (by kernel_rfl) (by kernel_rfl) ?_
  clear hdir hsel hpan
  simp only [opsAt, List.getElem?_toArray, List.getElem?_cons_succ, List.getElem?_cons_zero, Option.toList_some, List.cons_append, List.nil_append]
  have hL5 := (HL.out.then_ HB).then_ hHeld
  have hO5 := hL5.own
  have hz5 := HZ.out
  obtain ⟨n5, hn5⟩ : ∃ n, ks.length = n := ⟨_, rfl⟩
  rw [hn5] at hO5
  go_wp2_with (refine wpList_store_el rfl 32 _ _ rfl hO5 eK_len hn5 hz5 (⟨p.new, A', c'⟩ : Km) rfl rfl (by kernel_rfl) (by simp [eK, Value.oneCell']) ?_; intro w5 hO6 U)
  go_ret
  have hA := own_ge hO
  have lg : g < W0.heap.size := by have := hHeld0.size; omega
  have hne : ∀ a, A' = some a → a.block ≠ g := fun a ha e => by have := hA a ha; omega
  refine ⟨_, ks.set i ⟨p.new, A', c'⟩, rfl, ⟨hO6, ?_, ?_⟩, HD.out _ rfl, ((HB.mono (by omega)).trans (hHeld.mono (by omega))).trans (U.b B (by omega))⟩
  · refine mem_set (fun x hx => ?_) i ?_
    · have h := hL5.t x hx
      exact ⟨by rw [U.s]; exact h.s.upd U (fun a ha e => (hL5.f x hx a ha).2 (by rw [e]; rfl)), h.v, h.n, h.c⟩
    · exact ⟨by rw [U.s]; exact (hO.segA eS_len).upd U hne, HV.out, HM.out, hc'⟩
  · refine mem_set (fun x hx a ha => (hL5.f x hx a ha).1) i (fun a ha => ?_)
    have := hA a ha
    omega
end Go.Proofs.YtplommmegkdhdaaGreatDoor
/- Patches in memory; contracts of what patch.Apply calls. -/
namespace Go.Proofs.YtplommmegkdhdaaGreatDoor
open Go.RowKit

theorem ret_row2 {P : Program} {fn : Func} {a : Act} {w : World} {r s g : Nat} {t : TypeId} {cs : Array Value} (hres : fn.results = #[.cell r t, .tmp s]) (hp : a.tmps.getD r undef = .pointer (some ⟨g, 0, none⟩)) (hk : Blk w g t cs) (hu : ∃ fs, P.underlying t = some (.struct fs)) (hi : (P.info? t).map (·.size) = some cs.size) :
    (results fn a.tmps).run P w = .ok (.tuple #[.agg cs, a.tmps.getD s undef]) w := by
  obtain ⟨fs, hu⟩ := hu
  have h1 := run_loadVar_row w g t t cs (0, 0) _ hk hu rfl hi
  rw [Array.getD_eq_getD_getElem?] at hp
  have ha : (isAgg t).run P w = .ok true w := by simp [isAgg, run_underlying hu, Result.andThen]
  simp only [go_sem] at h1
  simp [results, hres, hp, go_sem, ha]
  simp [ha] at h1
  rw [h1]
  rfl
/-- a patch lies in memory -/
structure PatM (w : World) (p : Pat) (pm : Pm) : Prop where
  s : Seg w w.heap.size 1 eI pm.p p.cls
  n : p.cls.length ≤ 1000000
  c : p.cls.length ≤ pm.pc
  k : KOk w ⟨p.new, pm.A, pm.cap⟩
theorem PatM.then_ {w w' : World} {p : Pat} {pm : Pm} (h : PatM w p pm) (hb : Below w.heap.size w w') : PatM w' p pm := ⟨(h.s.below hb).more hb.size, h.n, h.c, h.k.then_ hb⟩
def Con.zero : Con := ⟨0, [], [], [], [], 0, []⟩
def mZ : Cm := ⟨none, 0, none, 0, none, 0, none, 0, none, 0, []⟩
theorem cont_zero (w : World) : Cont w Con.zero mZ :=
  ⟨Seg.nil _ _ _ _ _, Seg.nil _ _ _ _ _, Seg.nil _ _ _ _ _, Seg.nil _ _ _ _ _, Seg.nil _ _ _ _ _, rfl, fun x hx => (by cases hx), fun x hx => (by cases hx), fun x hx => (by cases hx), by decide, by decide, by decide, by decide, by decide, Nat.le_refl _, Nat.le_refl _, Nat.le_refl _, Nat.le_refl _, Nat.le_refl _⟩
abbrev coZ : Array Value := #[.int .i64 0, .slice none 0 0, .slice none 0 0, .slice none 0 0, .slice none 0 0, .int .i64 0, .slice none 0 0]
theorem coA_zero : coA Con.zero mZ = coZ := rfl
/-- what Apply gives besides its error -/
def Con.apC (c : Con) (p : Pat) : Con := if c.apE p = 0 then c.ap p else Con.zero
/-- a look-up in the map of effects: the effect's fields as letters -/
theorem look_any (k : Int) : ∃ (l m : Int) (rn sp : Bool) (fv : Value), (∀ (W : World) (r : Nat), W.heap[r]? = some (.map efs 5) → (Instr.lookup 64 (.map (some r)) (.int .i64 k) true).run Tryz.prog W = .ok (.tuple #[.agg #[.int .i64 l, .int .i64 m, .bool rn, .bool sp, fv], .bool (known k)]) W) ∧
    (known k = true → l = fewest k ∧ m = mostN k ∧ rn = (k == 1 || k == 2) ∧ sp = (k == 5) ∧ fv = .func (.func (doF k)) #[] #[]) ∧ fv.oneCell' = true := by
  cases hk : known k with
  | true => exact ⟨fewest k, mostN k, _, _, _, fun W r hb => look_known hb k hk, fun _ => ⟨rfl, rfl, rfl, rfl, rfl⟩, rfl⟩
  | false => exact ⟨0, 0, false, false, .nilFunc, fun W r hb => look_unknown hb k hk, fun h => (by cases h), rfl⟩
theorem fits_any (c : Con) (m : Cm) (p : Pat) (pm : Pm) (f0 : Nat) (w : World) (h : PatM w p pm) :
    Calls Tryz.prog 23 #[.agg (coA c m), .agg (pL p pm), .agg #[.int .i64 (fewest p.kind : Nat), .int .i64 (mostN p.kind : Nat), .bool (p.kind == 1 || p.kind == 2), .bool (p.kind == 5), .func (.func f0) #[] #[]]] w fun e w' => e = .returned (.bool (p.fits c.cl.length)) ∧ Below w.heap.size w w' :=
  fits_key c m p pm _ _ _ _ f0 (zeroC p.new) w h.s h.n (Lib.hid fun W => zero_any ⟨p.new, pm.A, pm.cap⟩ W) _ (by
    unfold Hid Pat.fits
    have e1 : (decide (fewest p.kind ≤ p.cls.length)) = decide (((fewest p.kind : Nat) : Int) ≤ p.cls.length) := by rw [Bool.eq_iff_iff]; simp
    have e2 : (decide (p.cls.length ≤ mostN p.kind)) = decide ((p.cls.length : Int) ≤ ((mostN p.kind : Nat) : Int)) := by rw [Bool.eq_iff_iff]; simp
    rw [e1, e2])
theorem fits_inc {p : Pat} {n : Nat} (h : p.fits n = true) : incI n (-1) p.cls = true ∧ fewest p.kind ≤ p.cls.length ∧ p.cls.length ≤ mostN p.kind := by
  unfold Pat.fits at h
  simp only [Bool.and_eq_true, decide_eq_true_eq] at h
  exact ⟨h.1.1.2, h.1.1.1.1, h.1.1.1.2⟩
/-- what an effect does, whichever it is -/
theorem do_any (p : Pat) (pm : Pm) (ks : List Km) (B g cap : Nat) (w : World) (hk : known p.kind = true) (hf : p.fits ks.length = true) (hL : Lst w B (.slice (some ⟨g, 0, none⟩) ks.length cap) ks) (hS : Seg w B 1 eI pm.p p.cls) (hn : p.cls.length ≤ 1000000) (hK : KOk w ⟨p.new, pm.A, pm.cap⟩) (hm : ks.length ≤ 1000000) :
    Calls Tryz.prog (doF p.kind) #[.slice (some ⟨g, 0, none⟩) ks.length cap, .agg (pL p pm)] w fun e w' => Done p ks B w e w' := by
  obtain ⟨hI, h1, h2⟩ := fits_inc hf
  have h : p.kind = 1 ∨ p.kind = 2 ∨ p.kind = 3 ∨ p.kind = 4 ∨ p.kind = 5 := by
    unfold known at hk
    simp only [Bool.or_eq_true, beq_iff_eq] at hk
    omega
  rcases h with e | e | e | e | e
  · rw [show doF p.kind = 41 by rw [e]; rfl]
    exact add_any p pm ks B g cap w e hL hK hm
  · rw [show doF p.kind = 42 by rw [e]; rfl]
    have l1 : p.cls.length = 1 := by rw [e] at h1 h2; simp [fewest, mostN] at h1 h2; omega
    exact repl_any p pm ks B g cap w e hL hS hK l1 hI
  · rw [show doF p.kind = 40 by rw [e]; rfl]
    exact waive_any p pm ks B g cap w (.inl e) hL hS hn hI
  · rw [show doF p.kind = 40 by rw [e]; rfl]
    exact waive_any p pm ks B g cap w (.inr e) hL hS hn hI
  · rw [show doF p.kind = 43 by rw [e]; rfl]
    exact span_any p pm ks B g cap w e hL hS hn hI
end Go.Proofs.YtplommmegkdhdaaGreatDoor
/- 'for i, x := range l' at a struct: the load, the new variable, an assignment, the store. -/
namespace Go.Proofs.YtplommmegkdhdaaGreatDoor
open Go.RowKit

/-- the same with an assignment between the new variable and the store -/
theorem wpList_elem4 {P : Program} {ops : Array Oper} {rest : List Oper} {o1 o2 oa o3 : Oper} {a : Act} {w : World} {Q : Exit → Act → World → Prop} {n : Nat} (ty : TypeId) (E : ElT P ty n) (x y : Operand) (d1 d2 d3 : Tmp)
    (g1 : o1.guard = none) (g2 : o2.guard = none) (ga : oa.guard = none) (g3 : o3.guard = none)
    (ho1 : o1.op = .load ty x) (hd1 : o1.dst = some d1) (ho2 : o2.op = .alloc ty) (hd2 : o2.dst = some d2) (hoa : oa.op = .assign y) (hda : oa.dst = some d3) (ho3 : o3.op = .store ty (.tmp d2) (.tmp d1)) (hd3 : o3.dst = none)
    (b o : Nat) (hx : a.eval x = .pointer (some ⟨b, o, none⟩)) (cs : List Value) (hn : cs.length = n) (hc : w.rangeAt b o cs) (h1 : ∀ v ∈ cs, v.oneCell' = true) (hne : d1 ≠ d2) (hne1 : d3 ≠ d1) (hne2 : d3 ≠ d2) (s1 : d1 < a.tmps.size) (s2 : d2 < a.tmps.size)
    (u : Value) (hyu : ((a.put (some d1) (.agg cs.toArray)).put (some d2) (.pointer (some ⟨w.heap.size, 0, none⟩))).eval y = u)
    (h : wpList P ops Q rest (((a.put (some d1) (.agg cs.toArray)).put (some d2) (.pointer (some ⟨w.heap.size, 0, none⟩))).put (some d3) u) (w.alloc (.cells cs.toArray ty))) : wpList P ops Q (o1 :: o2 :: oa :: o3 :: rest) a w := by
  subst hn hyu
  obtain ⟨⟨fs, hu⟩, hi, v, hz, hzr⟩ := E
  refine wpList_load_mid g1 ty x ho1 b o hx cs _ hc hu rfl hi ?_
  rw [hd1]
  refine wpList_plain g2 fun K hK => ?_
  have hrun : (execOp (Act.eval (a.put (some d1) (.agg cs.toArray))) o2).run P w = .ok (.value (.pointer (some ⟨w.heap.size, 0, none⟩))) (w.alloc (.cells v.cells ty)) := by
    unfold execOp
    simp only [ho2, Instr.alloc, Sem.run_bind, hzr, Result.andThen_ok, newVar, newRow]
    rfl
  unfold Oper.wp
  rw [hrun, Oper.upon_value]
  refine hK _ _ ?_
  rw [hd2]
  refine wpList_plain ga fun K hK => ?_
  unfold Oper.wp execOp
  simp only [hoa]
  refine hK _ _ ?_
  rw [hda]
  refine wpList_store_mid g3 ty _ _ ho3 w.heap.size 0 cs.toArray ?_ ?_ ?_ (by simpa using hi) (all_oneCell_toArray h1) ?_
  · simp [Act.eval, Act.put, Array.getElem?_setIfInBounds, hne2, s2]
  · simp [Act.eval, Act.put, Array.getElem?_setIfInBounds, hne.symm, hne1, s1]
  · intro j hj
    simp only [Nat.zero_add, List.size_toArray] at hj ⊢
    rw [World.cell?_alloc_at _ _ _ _ rfl, World.frozen?_alloc_at _ _ _ _ rfl]
    simp [hz, hj]
  · rw [hd3]
    simp only
    rw [setCells_new0 w ty _ cs hz]
    exact h
end Go.Proofs.YtplommmegkdhdaaGreatDoor
/- Plain: lists of patches applied, merged, and what conflicts. -/
namespace Go.Proofs.YtplommmegkdhdaaGreatDoor

theorem apE_ok {c : Con} {p : Pat} (h : c.apE p = 0) : c.ok = true ∧ (c.ap p).ok = true := by
  unfold Con.apE at h
  split at h
  · rename_i h1
    simp only [Bool.and_eq_true] at h1
    split at h
    · cases h
    · split at h
      · rename_i h2
        exact ⟨h1.1.1, h2⟩
      · cases h
  · cases h
/-- patches applied one by one: the error of the first that cannot be applied, and the contract -/
def Con.al (c : Con) : List Pat → Int × Con
  | [] => (0, c)
  | p :: l => if c.apE p = 0 then (c.ap p).al l else (c.apE p, c)
theorem al_yes {c : Con} {p : Pat} (l : List Pat) (h : c.apE p = 0) : c.al (p :: l) = (c.ap p).al l := by simp only [Con.al]; rw [if_pos h]
theorem al_no {c : Con} {p : Pat} (l : List Pat) (h : c.apE p ≠ 0) : c.al (p :: l) = (c.apE p, c) := by simp only [Con.al]; rw [if_neg h]
theorem al_app (c : Con) (l r : List Pat) : (c.al l).1 = 0 → c.al (l ++ r) = (c.al l).2.al r := by
  induction l generalizing c with
  | nil => intro _; rfl
  | cons p l ih =>
    intro h
    by_cases h0 : c.apE p = 0
    · rw [al_yes l h0] at h ⊢
      rw [List.cons_append, al_yes _ h0]
      exact ih _ h
    · rw [al_no l h0] at h
      exact absurd h h0
theorem al_app_no (c : Con) (l r : List Pat) : (c.al l).1 ≠ 0 → (c.al (l ++ r)).1 = (c.al l).1 := by
  induction l generalizing c with
  | nil => intro h; exact absurd rfl h
  | cons p l ih =>
    intro h
    rw [List.cons_append]
    by_cases h0 : c.apE p = 0
    · rw [al_yes l h0] at h ⊢
      rw [al_yes _ h0]
      exact ih _ h
    · rw [al_no _ h0, al_no _ h0]
theorem al_ok {c : Con} (hc : c.ok = true) : ∀ (l : List Pat), (c.al l).1 = 0 → (c.al l).2.ok = true := by
  intro l
  induction l generalizing c with
  | nil => intro _; exact hc
  | cons p l ih =>
    intro h
    by_cases h0 : c.apE p = 0
    · rw [al_yes l h0] at h ⊢
      exact ih (apE_ok h0).2 h
    · rw [al_no l h0] at h; exact absurd h h0
/-- the error of ApplyAll -/
def Con.allE (c : Con) (l : List Pat) : Int := if c.ok then (if 60 < l.length then 3 else (c.al l).1) else 1
theorem allE_ok {c : Con} {l : List Pat} (h : c.allE l = 0) : c.ok = true ∧ l.length ≤ 60 ∧ (c.al l).1 = 0 ∧ (c.al l).2.ok = true := by
  unfold Con.allE at h
  split at h
  · rename_i hc
    split at h
    · cases h
    · rename_i hl
      exact ⟨hc, by omega, h, al_ok hc l h⟩
  · cases h
theorem seq_no {c : Con} {l r : List Pat} (hl : l.length + r.length ≤ 60) (h : c.allE l ≠ 0) : c.allE (l ++ r) = c.allE l := by
  unfold Con.allE at h ⊢
  rw [List.length_append]
  split at h
  · rename_i hc
    rw [if_neg (by omega)] at h
    rw [if_pos hc, if_pos hc, if_neg (by omega), if_neg (by omega)]
    exact al_app_no _ _ _ h
  · rename_i hc
    rw [if_neg hc, if_neg hc]
theorem seq_yes {c : Con} {l r : List Pat} (hl : l.length + r.length ≤ 60) (h : c.allE l = 0) : c.allE (l ++ r) = (c.al l).2.allE r ∧ c.al (l ++ r) = (c.al l).2.al r := by
  obtain ⟨h1, h2, h3, h4⟩ := allE_ok h
  have e := al_app c l r h3
  refine ⟨?_, e⟩
  unfold Con.allE
  rw [List.length_append, if_pos h1, if_pos h4, if_neg (by omega), if_neg (by omega), e]
def addsN (l : List Pat) : Nat := (l.filter fun p => p.kind == 1).length
def renI (n : Nat) (k : Nat) (i : Int) : Int := if (n : Int) ≤ i then i + k else i
def Pat.ren (p : Pat) (n k : Nat) : Pat := { p with cls := p.cls.map (renI n k), new := { p.new with start := p.new.start.map fun s => (renI n k s.1, s.2) } }
theorem ren_zero (p : Pat) (n : Nat) : p.ren n 0 = p := by
  have e : renI n 0 = id := by funext i; unfold renI; split <;> simp
  have e2 : p.cls.map (renI n 0) = p.cls := by rw [e, List.map_id]
  have e3 : (p.new.start.map fun s => (renI n 0 s.1, s.2)) = p.new.start := by rw [e]; simp
  unfold Pat.ren
  rw [e2, e3]
/-- the last two clauses exchanged -/
def swapL (n : Nat) (l : List Cla) : List Cla := match l[n]?, l[n + 1]? with
  | some a, some b => (l.set n b).set (n + 1) a
  | _, _ => l
/-- two patches have the same result in both orders -/
def Con.com (c : Con) (p q : Pat) : Bool := decide ((c.al [p, q]).1 = 0) && decide ((c.al [q, p]).1 = 0) && decide ((c.al [p, q]).2.cl = if p.kind = 1 ∧ q.kind = 1 then swapL c.cl.length (c.al [q, p]).2.cl else (c.al [q, p]).2.cl)
/-- the inner loop: the place from j on of the first patch that depends on the order with p -/
def inner (n k : Nat) (p : Pat) : Con → Nat → List Pat → Option Nat
  | _, _, [] => none
  | c, j, q :: r => if c.com p (q.ren n k) then (if c.apE (q.ren n k) = 0 then inner n k p (c.ap (q.ren n k)) (j + 1) r else none) else some j
def outer (n : Nat) (right : List Pat) : Con → Nat → Nat → List Pat → Option (Nat × Nat)
  | _, _, _, [] => none
  | c, k, i, p :: l => match inner n k p c 0 right with
    | some j => some (i, j)
    | none => if c.apE p = 0 then outer n right (c.ap p) (k + addsN [p]) (i + 1) l else none
end Go.Proofs.YtplommmegkdhdaaGreatDoor
/- Plain: patches of two lists that do not conflict (none adds a clause): every interleaving has the same result. -/
namespace Go.Proofs.YtplommmegkdhdaaGreatDoor

theorem con_ext {a b : Con} (h : a.cl = b.cl) (h0 : a.par = b.par) (h1 : a.hold = b.hold) (h2 : a.un = b.un) (h3 : a.ac = b.ac) (h4 : a.days = b.days) (h5 : a.off = b.off) : a = b := by
  cases a; cases b; simp_all
theorem al_two {c : Con} {p q : Pat} (h : (c.al [p, q]).1 = 0) : c.apE p = 0 ∧ (c.ap p).apE q = 0 ∧ (c.al [p, q]).2 = (c.ap p).ap q := by
  by_cases h0 : c.apE p = 0
  · rw [al_yes _ h0] at h ⊢
    by_cases h1 : (c.ap p).apE q = 0
    · rw [al_yes _ h1]
      exact ⟨h0, h1, rfl⟩
    · rw [al_no _ h1] at h; exact absurd h h1
  · rw [al_no _ h0] at h; exact absurd h h0
/-- two patches of which not both add a clause, that commute -/
theorem com_of {c : Con} {p q : Pat} (h : c.com p q = true) (hk : ¬ (p.kind = 1 ∧ q.kind = 1)) : c.apE p = 0 ∧ c.apE q = 0 ∧ (c.ap p).apE q = 0 ∧ (c.ap q).apE p = 0 ∧ (c.ap p).ap q = (c.ap q).ap p := by
  unfold Con.com at h
  simp only [Bool.and_eq_true, decide_eq_true_eq, if_neg hk] at h
  obtain ⟨⟨h1, h2⟩, h3⟩ := h
  obtain ⟨a1, a2, a3⟩ := al_two h1
  obtain ⟨b1, b2, b3⟩ := al_two h2
  rw [a3, b3] at h3
  exact ⟨a1, b1, a2, b2, con_ext h3 rfl rfl rfl rfl rfl rfl⟩
/-- p commutes with each patch of the list, where it stands -/
def rowOk (p : Pat) : Con → List Pat → Prop
  | _, [] => True
  | c, q :: r => c.com p q = true ∧ rowOk p (c.ap q) r
def gridOk (right : List Pat) : Con → List Pat → Prop
  | _, [] => True
  | c, p :: l => rowOk p c right ∧ gridOk right (c.ap p) l
theorem inner_row (n : Nat) (p : Pat) : ∀ (r : List Pat) (c : Con) (j : Nat), inner n 0 p c j r = none → (c.al r).1 = 0 → rowOk p c r
  | [], _, _, _, _ => trivial
  | q :: r, c, j, h, h0 => by
    unfold inner at h
    rw [ren_zero] at h
    have hq : c.apE q = 0 := by
      by_cases h1 : c.apE q = 0
      · exact h1
      · rw [al_no _ h1] at h0; exact absurd h0 h1
    rw [al_yes _ hq] at h0
    by_cases hc : c.com p q = true
    · rw [if_pos hc, if_pos hq] at h
      exact ⟨hc, inner_row n p r _ _ h h0⟩
    · rw [if_neg hc] at h; cases h
def noAdd (l : List Pat) : Prop := ∀ p ∈ l, p.kind ≠ 1
theorem row_after {p : Pat} (hp : p.kind ≠ 1) : ∀ (r : List Pat) (c : Con), rowOk p c r → c.apE p = 0 → (c.al r).1 = 0 → ((c.ap p).al r).1 = 0 ∧ ((c.ap p).al r).2 = (c.al r).2.ap p ∧ (c.al r).2.apE p = 0
  | [], c, _, hp0, _ => ⟨rfl, rfl, hp0⟩
  | q :: r, c, ⟨hc, hr⟩, hp0, h0 => by
    obtain ⟨a1, a2, a3, a4, a5⟩ := com_of hc (fun h => hp h.1)
    rw [al_yes _ a2] at h0 ⊢
    rw [al_yes _ a3, a5]
    exact row_after hp r _ hr a4 h0
/-- the list l takes the patches of left and right in their orders -/
inductive Shuf : List Pat → List Pat → List Pat → Prop
  | nil : Shuf [] [] []
  | left {p : Pat} {l r s : List Pat} : Shuf l r s → Shuf (p :: l) r (p :: s)
  | right {q : Pat} {l r s : List Pat} : Shuf l r s → Shuf l (q :: r) (q :: s)
theorem grid_right {q : Pat} {r : List Pat} : ∀ (l : List Pat) (c : Con), noAdd l → gridOk (q :: r) c l → (c.al l).1 = 0 → c.apE q = 0 → gridOk r (c.ap q) l ∧ ((c.ap q).al l).1 = 0
  | [], c, _, _, _, _ => ⟨trivial, rfl⟩
  | p :: l, c, hn, ⟨⟨h1, h2⟩, h3⟩, h0, hq => by
    obtain ⟨a1, a2, a3, a4, a5⟩ := com_of h1 (fun h => hn p (List.mem_cons_self ..) h.1)
    rw [al_yes _ a1] at h0
    obtain ⟨b1, b2⟩ := grid_right l (c.ap p) (fun x hx => hn x (List.mem_cons_of_mem _ hx)) h3 h0 a3
    rw [a5] at b1 b2
    exact ⟨⟨h2, b1⟩, by rw [al_yes _ a4]; exact b2⟩
theorem grid_left {p : Pat} {l r : List Pat} {c : Con} (hp : p.kind ≠ 1) (h : gridOk r c (p :: l)) (h0 : c.apE p = 0) (hr : (c.al r).1 = 0) : gridOk r (c.ap p) l ∧ ((c.ap p).al r).1 = 0 :=
  ⟨h.2, (row_after hp r c h.1 h0 hr).1⟩
/-- where all goes well, the result does not depend on the interleaving -/
theorem shuf_same {l r s : List Pat} (h : Shuf l r s) : ∀ {c : Con}, noAdd l → noAdd r → gridOk r c l → (c.al l).1 = 0 → (c.al r).1 = 0 → (c.al s).1 = 0 ∧ (c.al s).2 = ((c.al l).2.al r).2 ∧ ((c.al l).2.al r).1 = 0 := by
  induction h with
  | nil => intro c _ _ _ _ _; exact ⟨rfl, rfl, rfl⟩
  | @left p l r s _ ih =>
    intro c hl hr hg h1 h2
    have hp0 : c.apE p = 0 := by
      by_cases h : c.apE p = 0
      · exact h
      · rw [al_no _ h] at h1; exact absurd h1 h
    rw [al_yes _ hp0] at h1 ⊢
    obtain ⟨g1, g2⟩ := grid_left (hl p (List.mem_cons_self ..)) hg hp0 h2
    rw [al_yes _ hp0]
    exact ih (fun x hx => hl x (List.mem_cons_of_mem _ hx)) hr g1 h1 g2
  | @right q l r s _ ih =>
    intro c hl hr hg h1 h2
    have hq0 : c.apE q = 0 := by
      by_cases h : c.apE q = 0
      · exact h
      · rw [al_no _ h] at h2; exact absurd h2 h
    rw [al_yes _ hq0] at h2
    obtain ⟨g1, g2⟩ := grid_right l c hl hg h1 hq0
    obtain ⟨a, b, d⟩ := ih hl (fun x hx => hr x (List.mem_cons_of_mem _ hx)) g1 g2 h2
    -- the contract after all of l and then q is that after q and then l
    have key : ∀ (l : List Pat) (c : Con), noAdd l → gridOk (q :: r) c l → (c.al l).1 = 0 → c.apE q = 0 → ((c.ap q).al l).2 = (c.al l).2.ap q ∧ (c.al l).2.apE q = 0 := by
      intro l
      induction l with
      | nil => intro c _ _ _ hq; exact ⟨rfl, hq⟩
      | cons p l ih2 =>
        intro c hn hg h0 hq
        obtain ⟨⟨e1, e2⟩, e3⟩ := hg
        obtain ⟨a1, a2, a3, a4, a5⟩ := com_of e1 (fun h => hn p (List.mem_cons_self ..) h.1)
        rw [al_yes _ a1] at h0
        obtain ⟨k1, k2⟩ := ih2 (c.ap p) (fun x hx => hn x (List.mem_cons_of_mem _ hx)) e3 h0 a3
        rw [al_yes _ a4, al_yes _ a1, ← a5]
        exact ⟨k1, k2⟩
    obtain ⟨k1, k2⟩ := key l c hl hg h1 hq0
    rw [al_yes _ hq0, al_yes _ k2, ← k1]
    exact ⟨a, b, d⟩
theorem outer_grid (n : Nat) (right : List Pat) : ∀ (l : List Pat) (c : Con) (i : Nat), noAdd l → outer n right c 0 i l = none → (c.al l).1 = 0 → (c.al right).1 = 0 → gridOk right c l
  | [], _, _, _, _, _, _ => trivial
  | p :: l, c, i, hn, h, h0, hr => by
    have hp := hn p (List.mem_cons_self ..)
    have hp0 : c.apE p = 0 := by
      by_cases h : c.apE p = 0
      · exact h
      · rw [al_no _ h] at h0; exact absurd h0 h
    have ha : addsN [p] = 0 := by
      unfold addsN
      simp [hp]
    unfold outer at h
    rw [ha] at h
    cases hi : inner n 0 p c 0 right with
    | some j => rw [hi] at h; cases h
    | none =>
      rw [hi] at h
      simp only [hp0, if_true] at h
      rw [al_yes _ hp0] at h0
      have hrow := inner_row n p right c 0 hi hr
      exact ⟨hrow, outer_grid n right l (c.ap p) (i + 1) (fun x hx => hn x (List.mem_cons_of_mem _ hx)) h h0 (row_after hp right c hrow hp0 hr).1⟩
end Go.Proofs.YtplommmegkdhdaaGreatDoor
/- Plain: merging two lists of patches; where the first conflict lies. -/
namespace Go.Proofs.YtplommmegkdhdaaGreatDoor

/-- the error of Merge, and the places of the conflict -/
def Con.mrE (c : Con) (l r : List Pat) : Int × Nat × Nat :=
  if c.allE l ≠ 0 then (c.allE l, 0, 0) else if c.allE r ≠ 0 then (c.allE r, 0, 0)
  else if 60 < l.length + r.length ∨ 400 < c.cl.length + addsN l + addsN r then (3, 0, 0)
  else match outer c.cl.length r c 0 0 l with
    | some (i, j) => (16, i, j)
    | none => (0, 0, 0)
def Con.mrL (c : Con) (l r : List Pat) : List Pat := l.map (fun p => p.ren c.cl.length 0) ++ r.map (fun q => q.ren c.cl.length (addsN l))
theorem inner_some (n k : Nat) (p : Pat) : ∀ (r : List Pat) (c : Con) (j0 x : Nat), inner n k p c j0 r = some x → ∃ j, x = j0 + j ∧ j < r.length ∧ inner n k p c j0 (r.take j) = none ∧ inner n k p c j0 (r.take (j + 1)) = some x
  | [], c, j0, x, h => by cases h
  | q :: r, c, j0, x, h => by
    unfold inner at h
    by_cases hc : c.com p (q.ren n k) = true
    · rw [if_pos hc] at h
      by_cases ha : c.apE (q.ren n k) = 0
      · rw [if_pos ha] at h
        obtain ⟨j, e, hj, h1, h2⟩ := inner_some n k p r _ _ _ h
        refine ⟨j + 1, by omega, by simpa using hj, ?_, ?_⟩
        · rw [List.take_succ_cons, inner, if_pos hc, if_pos ha]; exact h1
        · rw [List.take_succ_cons, inner, if_pos hc, if_pos ha]; exact h2
      · rw [if_neg ha] at h; cases h
    · rw [if_neg hc] at h
      refine ⟨0, by injection h with h; omega, by simp, by simp [inner], ?_⟩
      rw [List.take_succ_cons, inner, if_neg hc]; exact h
theorem inner_take (n k : Nat) (p : Pat) : ∀ (r : List Pat) (c : Con) (j0 m : Nat), inner n k p c j0 r = none → inner n k p c j0 (r.take m) = none
  | [], c, j0, m, h => by simpa using h
  | q :: r, c, j0, 0, h => by simp [inner]
  | q :: r, c, j0, m + 1, h => by
    rw [List.take_succ_cons]
    unfold inner at h ⊢
    by_cases hc : c.com p (q.ren n k) = true
    · rw [if_pos hc] at h ⊢
      by_cases ha : c.apE (q.ren n k) = 0
      · rw [if_pos ha] at h ⊢
        exact inner_take n k p r _ _ m h
      · rw [if_neg ha]
    · rw [if_neg hc] at h; cases h
theorem outer_some (n : Nat) (r : List Pat) : ∀ (l : List Pat) (c : Con) (k i0 : Nat) (x y : Nat), outer n r c k i0 l = some (x, y) → ∃ i, x = i0 + i ∧ i < l.length ∧ y < r.length ∧ outer n r c k i0 (l.take i) = none ∧ outer n (r.take y) c k i0 (l.take (i + 1)) = none ∧ outer n (r.take (y + 1)) c k i0 (l.take (i + 1)) = some (x, y)
  | [], c, k, i0, x, y, h => by cases h
  | p :: l, c, k, i0, x, y, h => by
    unfold outer at h
    cases hi : inner n k p c 0 r with
    | some j =>
      rw [hi] at h
      injection h with h
      injection h with h1 h2
      subst h1 h2
      obtain ⟨j', e, hj, h1, h2⟩ := inner_some n k p r c 0 _ hi
      obtain rfl : j = j' := by omega
      refine ⟨0, by omega, by simp, hj, by simp [outer], ?_, ?_⟩
      · rw [List.take_succ_cons, outer, h1]
        simp only [List.take_zero]
        split <;> rfl
      · rw [List.take_succ_cons, outer, h2]
    | none =>
      rw [hi] at h
      by_cases ha : c.apE p = 0
      · simp only [ha, if_true] at h
        obtain ⟨i, e, hlt, hy, h1, h2, h3⟩ := outer_some n r l _ _ _ _ _ h
        refine ⟨i + 1, by omega, by simpa using hlt, hy, ?_, ?_, ?_⟩
        · rw [List.take_succ_cons, outer, hi]; simp only [ha, if_true]; exact h1
        · rw [List.take_succ_cons, outer, inner_take n k p r c 0 y hi]; simp only [ha, if_true]; exact h2
        · rw [List.take_succ_cons, outer, inner_take n k p r c 0 (y + 1) hi]; simp only [ha, if_true]; exact h3
      · simp only [ha, if_false] at h; cases h
theorem addsN_take (l : List Pat) (i : Nat) : addsN (l.take i) ≤ addsN l := by
  unfold addsN
  conv => rhs; rw [← List.take_append_drop i l, List.filter_append, List.length_append]
  omega
theorem al_take {c : Con} {l : List Pat} (i : Nat) (h : (c.al l).1 = 0) : (c.al (l.take i)).1 = 0 := by
  by_cases h0 : (c.al (l.take i)).1 = 0
  · exact h0
  · have := al_app_no c (l.take i) (l.drop i) h0
    rw [List.take_append_drop] at this
    omega
theorem allE_take {c : Con} {l : List Pat} (i : Nat) (h : c.allE l = 0) : c.allE (l.take i) = 0 := by
  obtain ⟨h1, h2, h3, _⟩ := allE_ok h
  unfold Con.allE
  rw [if_pos h1, if_neg (by rw [List.length_take]; omega)]
  exact al_take i h3
theorem mr_conf {c : Con} {l r : List Pat} (h : (c.mrE l r).1 = 16) (_hl : l.length + r.length ≤ 60) : c.allE l = 0 ∧ c.allE r = 0 ∧ ¬ 400 < c.cl.length + addsN l + addsN r ∧ outer c.cl.length r c 0 0 l = some ((c.mrE l r).2.1, (c.mrE l r).2.2) := by
  have e3 : ∀ l, c.allE l ≠ 0 → c.allE l ≠ 16 := by
    intro l _
    have ap : ∀ (l : List Pat) (c : Con), (c.al l).1 = 0 ∨ (c.al l).1 = 1 ∨ (c.al l).1 = 3 := by
      intro l
      induction l with
      | nil => intro c; exact .inl rfl
      | cons p l ih =>
        intro c
        by_cases h0 : c.apE p = 0
        · rw [al_yes _ h0]; exact ih _
        · rw [al_no _ h0]
          unfold Con.apE
          split
          · split
            · exact .inr (.inr rfl)
            · split
              · exact .inl rfl
              · exact .inr (.inl rfl)
          · exact .inr (.inl rfl)
    unfold Con.allE
    have := ap l c
    split
    · split <;> omega
    · omega
  unfold Con.mrE at h ⊢
  by_cases h1 : c.allE l ≠ 0
  · rw [if_pos h1] at h; exact absurd h (e3 l h1)
  · rw [if_neg h1] at h ⊢
    by_cases h2 : c.allE r ≠ 0
    · rw [if_pos h2] at h; exact absurd h (e3 r h2)
    · rw [if_neg h2] at h ⊢
      by_cases h3 : 60 < l.length + r.length ∨ 400 < c.cl.length + addsN l + addsN r
      · rw [if_pos h3] at h; cases h
      · rw [if_neg h3] at h ⊢
        refine ⟨by omega, by omega, by omega, ?_⟩
        cases ho : outer c.cl.length r c 0 0 l with
        | none => rw [ho] at h; cases h
        | some x => obtain ⟨i, j⟩ := x; rfl
theorem mr_ok {c : Con} {l r : List Pat} (h1 : c.allE l = 0) (h2 : c.allE r = 0) (h3 : ¬ (60 < l.length + r.length ∨ 400 < c.cl.length + addsN l + addsN r)) : c.mrE l r = match outer c.cl.length r c 0 0 l with
    | some (i, j) => (16, i, j)
    | none => (0, 0, 0) := by
  unfold Con.mrE
  rw [if_neg (by omega), if_neg (by omega), if_neg h3]
/-- the patches before the first one of a conflict, and what conflicts with it -/
theorem conflict_law {c : Con} {l r : List Pat} (hl : l.length + r.length ≤ 60) (h : (c.mrE l r).1 = 16) :
    (c.mrE l r).2.1 < l.length ∧ (c.mrE l r).2.2 < r.length ∧ (c.mrE (l.take (c.mrE l r).2.1) r).1 = 0 ∧ (c.mrE (l.take ((c.mrE l r).2.1 + 1)) (r.take (c.mrE l r).2.2)).1 = 0 ∧ c.mrE (l.take ((c.mrE l r).2.1 + 1)) (r.take ((c.mrE l r).2.2 + 1)) = c.mrE l r := by
  obtain ⟨a1, a2, a3, a4⟩ := mr_conf h hl
  have e : c.mrE l r = (16, (c.mrE l r).2.1, (c.mrE l r).2.2) := by rw [← h]
  obtain ⟨i, e1, hi, hj, o1, o2, o3⟩ := outer_some _ _ _ _ _ _ _ _ a4
  generalize (c.mrE l r).2.1 = x at *
  generalize (c.mrE l r).2.2 = y at *
  obtain rfl : x = i := by omega
  have lim : ∀ m k, ¬ (60 < (l.take m).length + (r.take k).length ∨ 400 < c.cl.length + addsN (l.take m) + addsN (r.take k)) := by
    intro m k
    have b1 := addsN_take l m
    have b2 := addsN_take r k
    rw [List.length_take, List.length_take]
    omega
  have lim0 : ¬ (60 < (l.take x).length + r.length ∨ 400 < c.cl.length + addsN (l.take x) + addsN r) := by
    have b1 := addsN_take l x
    rw [List.length_take]
    omega
  refine ⟨hi, hj, ?_, ?_, ?_⟩
  · rw [mr_ok (allE_take x a1) a2 lim0, o1]
  · rw [mr_ok (allE_take _ a1) (allE_take _ a2) (lim _ _), o2]
  · rw [mr_ok (allE_take _ a1) (allE_take _ a2) (lim _ _), o3, e]
/-- two patches as lists of one patch -/
theorem one_law {c : Con} {p q : Pat} (hn : c.cl.length ≤ 20) : (c.apE p = 0 → c.apE q = 0 → ((c.mrE [p] [q]).1 = 0 ↔ c.com p q = true)) ∧ (c.apE p ≠ 0 → (c.mrE [p] [q]).1 = c.apE p) ∧ (c.apE p = 0 → c.apE q ≠ 0 → (c.mrE [p] [q]).1 = c.apE q) := by
  have one : ∀ p, c.allE [p] = c.apE p := by
    intro p
    by_cases h0 : c.apE p = 0
    · rw [h0]
      unfold Con.allE
      rw [if_pos (apE_ok h0).1, if_neg (by simp), al_yes _ h0]; rfl
    · unfold Con.allE
      cases hc : c.ok with
      | true => rw [if_pos rfl, if_neg (by simp), al_no _ h0]
      | false =>
        rw [if_neg (by simp)]
        unfold Con.apE
        rw [hc]; rfl
  have lim : ¬ (60 < [p].length + [q].length ∨ 400 < c.cl.length + addsN [p] + addsN [q]) := by
    have h1' : ∀ p, addsN [p] ≤ 1 := by
      intro p
      have := List.length_filter_le (fun p : Pat => p.kind == 1) [p]
      simpa [addsN] using this
    have := h1' p
    have := h1' q
    simp only [List.length_cons, List.length_nil]
    omega
  refine ⟨fun h1 h2 => ?_, fun h1 => ?_, fun h1 h2 => ?_⟩
  · rw [mr_ok (by rw [one, h1]) (by rw [one, h2]) lim]
    have hi : inner c.cl.length 0 p c 0 [q] = if c.com p q = true then none else some 0 := by
      simp only [inner, ren_zero, h2, if_true]
    simp only [outer, hi, h1, if_true]
    by_cases hc : c.com p q = true
    · simp [hc]
    · simp [hc]
  · unfold Con.mrE
    rw [one, if_pos h1]
  · unfold Con.mrE
    rw [one, one, if_neg (by omega), if_pos h2]
theorem com_apE {c : Con} {p q : Pat} (h : c.com p q = true) : c.apE p = 0 ∧ c.apE q = 0 := by
  unfold Con.com at h
  simp only [Bool.and_eq_true, decide_eq_true_eq] at h
  exact ⟨(al_two h.1.1).1, (al_two h.1.2).1⟩
/-- merging with an empty list -/
theorem empty_law {c : Con} {l : List Pat} (hl : l.length ≤ 60) (hn : c.cl.length ≤ 20) : c.mrE l [] = (c.allE l, 0, 0) ∧ c.mrE [] l = (c.allE l, 0, 0) ∧ c.mrL l [] = l ∧ c.mrL [] l = l := by
  have ha : addsN l ≤ l.length := List.length_filter_le _ _
  have h0 : addsN [] = 0 := rfl
  have he : c.allE [] = if c.ok then 0 else 1 := by
    unfold Con.allE
    split
    · rw [if_neg (by simp)]; rfl
    · rfl
  have hid : ∀ l : List Pat, l.map (fun p => p.ren c.cl.length 0) = l := by
    intro l
    rw [show (fun p : Pat => p.ren c.cl.length 0) = id from funext fun p => ren_zero p _, List.map_id]
  refine ⟨?_, ?_, ?_, ?_⟩
  · by_cases h : c.allE l = 0
    · have hc := (allE_ok h).1
      rw [mr_ok h (by rw [he, if_pos hc]) (by rw [h0]; simp only [List.length_nil]; omega)]
      have : ∀ (l : List Pat) (c : Con) (n k i : Nat), outer n [] c k i l = none := by
        intro l
        induction l with
        | nil => intro c n k i; rfl
        | cons p l ih =>
          intro c n k i
          simp only [outer, inner]
          split
          · exact ih _ _ _ _
          · rfl
      rw [this, h]
    · unfold Con.mrE
      rw [if_pos h]
  · by_cases h : c.allE l = 0
    · have hc := (allE_ok h).1
      rw [mr_ok (by rw [he, if_pos hc]) h (by rw [h0]; simp only [List.length_nil]; omega), h]
      rfl
    · unfold Con.mrE
      rw [he]
      cases hc : c.ok with
      | true => rw [if_neg (by simp), if_pos h]
      | false =>
        rw [if_pos (by simp)]
        unfold Con.allE
        rw [hc]; rfl
  · unfold Con.mrL
    rw [hid]; simp
  · unfold Con.mrL
    rw [show addsN [] = 0 from rfl, List.map_nil, List.nil_append]
    exact hid l
end Go.Proofs.YtplommmegkdhdaaGreatDoor
