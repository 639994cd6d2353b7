/- Contracts of functions and plain laws, joined: Wa1, Wa2, Ur. -/
import Derived.Test.YtginnonjdbpamaaGreatDoorMb32
import Derived.Test.YtginnonjdbpamaaGreatDoorMb13
/- The walk of validate.agrees. -/
import Derived.Test.YtginnonjdbpamaaGreatDoorMb1
set_option maxHeartbeats 6400000
set_option maxRecDepth 100000
namespace Go.Proofs.YtginnonjdbpamaaGreatDoor
open Go.RowKit Go.Sort
abbrev oL (o : Out) : List Value := [.int .i64 o.st, .int .i64 o.from_, .int .i64 o.to_, .int .i64 o.got, .int .i64 o.brr]
theorem elOu : ElT Tryz.prog 54 5 := ⟨⟨_, Tryz.underlying54⟩, by kernel_rfl, ⟨.agg #[.int .i64 0, .int .i64 0, .int .i64 0, .int .i64 0, .int .i64 0], rfl, fun w => by kernel_rfl⟩⟩
theorem agrees_any (s : Sta) (q : Qm) (d : Int) (hol : List Int) (oc : List Out) (Ah : Option Addr) (ch : Nat) (Ao : Option Addr) (co : Nat) (w : World) (hS : Stm w s q) (hh : Seg w w.heap.size 1 eI Ah hol) (ho : Seg w w.heap.size 5 eO Ao oc) (nh : hol.length ≤ 1000000) (no : oc.length ≤ 1000000) :
  Calls Tryz.prog 31 #[.agg (stA s q), .int .i64 d, .slice Ah hol.length ch, .slice Ao oc.length co] w fun e w' => e = .returned (.bool (agrP s d hol oc)) ∧ Below w.heap.size w w' := by
 obtain ⟨R, hR⟩ : ∃ R, agrP s d hol oc = R := ⟨_, rfl⟩
 rw [hR]
 have HR : Hid (R = decide (s.day = d ∧ s.hol = hol ∧ s.marks.map Mk.tri = oc.map Out.tri)) := hR.symm
 have HS := Lib.hid hS
 have HH := Lib.hid hh
 have HO := Lib.hid ho
 have nh2 := hS.nh
 have nm2 := hS.nm
 clear hR hS hh ho
 go_enter Tryz.func31, Tryz.ntmps31
 go_upto_region 1 with (fail)
 refine name_wp ?_
 intro X hX
 have gs : Blk X w.heap.size 43 (stA s q) := by rw [hX]; exact Blk.new _ _ _
 have HB : Hid (Below w.heap.size w X) := by rw [hX]; exact wa1 _ _
 obtain ⟨bs, ebs⟩ : ∃ b, w.heap.size = b := ⟨_, rfl⟩
 rw [ebs] at gs ⊢
 clear hX ebs
 have s0 : X.cell? ⟨bs, 0, none⟩ = some (.int .i64 s.day) := gs.cell 0
 have s1 : X.cell? ⟨bs, 1, none⟩ = some (.slice q.h s.hol.length q.hc) := gs.cell 1
 have s3 : X.cell? ⟨bs, 3, none⟩ = some (.slice q.m s.marks.length q.mc) := gs.cell 3
 have GS := Lib.hid gs
 clear gs
 by_cases e1 : s.day = d
 case neg =>
  have t1 : (s.day != d) = true := by simpa using e1
  have t1' : (s.day == d) = false := by simpa using e1
  have hf : Hid (R = false) := by unfold Hid; rw [HR.out]; exact decide_eq_false fun h => e1 h.1
  clear e1
  go_wp2
  go_ret
  exact ⟨ret_bool hf.out.symm, HB.out⟩
 have t1 : (s.day != d) = false := by simpa using e1
 have t1' : (s.day == d) = true := by simpa using e1
 have HE1 := Lib.hid e1
 clear e1
 by_cases e2 : s.hol.length = hol.length
 case neg =>
  have t2 : (((s.hol.length : Nat) : Int) == ((hol.length : Nat) : Int)) = false := beq_eq_false_iff_ne.2 (by omega)
  have t2' : (((s.hol.length : Nat) : Int) != ((hol.length : Nat) : Int)) = true := bne_iff_ne.2 (by omega)
  have hf : Hid (R = false) := by unfold Hid; rw [HR.out]; exact decide_eq_false fun h => e2 (by rw [h.2.1])
  clear e2
  go_wp2
  go_ret
  exact ⟨ret_bool hf.out.symm, HB.out⟩
 have t2 : (((s.hol.length : Nat) : Int) == ((hol.length : Nat) : Int)) = true := by simp [e2]
 have t2' : (((s.hol.length : Nat) : Int) != ((hol.length : Nat) : Int)) = false := by simp [e2]
 have HE2 := Lib.hid e2
 clear e2
 by_cases e3 : s.marks.length = oc.length
 case neg =>
  have t3 : (((s.marks.length : Nat) : Int) == ((oc.length : Nat) : Int)) = false := beq_eq_false_iff_ne.2 (by omega)
  have t3' : (((s.marks.length : Nat) : Int) != ((oc.length : Nat) : Int)) = true := bne_iff_ne.2 (by omega)
  have hf : Hid (R = false) := by unfold Hid; rw [HR.out]; exact decide_eq_false fun h => e3 (by have := congrArg List.length h.2.2; simpa using this)
  clear e3
  go_wp2
  go_ret
  exact ⟨ret_bool hf.out.symm, HB.out⟩
 have t3 : (((s.marks.length : Nat) : Int) == ((oc.length : Nat) : Int)) = true := by simp [e3]
 have t3' : (((s.marks.length : Nat) : Int) != ((oc.length : Nat) : Int)) = false := by simp [e3]
 have HE3 := Lib.hid e3
 clear e3
 go_upto_region 4 with (fail)
 clear t1 t1' t2 t2' t3 t3' s0 s1 s3
 go_loopw [36] (fun y WR => ∃ j : Nat, j ≤ hol.length ∧ y = .int .i64 j ∧ Hid (∀ n, n < j → s.hol[n]? = hol[n]?) ∧ X = WR) (fun y _ => 2000000 - (intOf y).toNat)
 case atStart => exact ⟨0, by omega, rfl, fun n h => absurd h (by omega), rfl⟩
 case round =>
  obtain ⟨j, hj, rfl, hN, rfl⟩ := hrel
  by_cases hlt : j < hol.length
  ·have tj : decide ((j : Int) < (hol.length : Int)) = true := decide_eq_true (by omega)
   have hlt2 : j < s.hol.length := by have := HE2.out; omega
   obtain ⟨x, hx⟩ : ∃ h, hol[j]? = some h := ⟨_, qzJ hlt⟩
   obtain ⟨y, hy⟩ : ∃ h, s.hol[j]? = some h := ⟨_, qzJ hlt2⟩
   obtain ⟨b0, o0, eA0, hb0, hc0⟩ := segAt ((HH.out.below HB.out).more HB.out.size) hx
   obtain ⟨b1, o1, eA1, hb1, hc1⟩ := segAt (HS.out.then_ HB.out).h hy
   have hix := fun W => idx_at (t := 22) (size := 1) (cap := ch) eA0 hlt (by kernel_rfl) (fun W => by kernel_rfl) W
   have hiy := fun W => idx_at (t := 22) (size := 1) (cap := q.hc) eA1 hlt2 (by kernel_rfl) (fun W => by kernel_rfl) W
   have d0 : X.cell? ⟨b0, o0 + j, none⟩ = some (.int .i64 x) := by simpa using hc0 0 _ rfl
   have d1 : X.cell? ⟨b1, o1 + j, none⟩ = some (.int .i64 y) := by simpa using hc1 0 _ rfl
   simp only [Nat.mul_one] at hix hiy
   have s1 : X.cell? ⟨bs, 1, none⟩ = some (.slice q.h s.hol.length q.hc) := GS.out.cell 1
   have HX := Lib.hid hx
   have HY := Lib.hid hy
   clear hc0 eA0 hx hc1 eA1 hy
   by_cases e : y = x
   ·have t1 : (y == x) = true := by simpa using e
    have t1' : (y != x) = false := by simpa using e
    have hE : Hid (∀ n, n < j + 1 → s.hol[n]? = hol[n]?) := fun n hn => by
     by_cases en : n = j
     ·rw [en, HX.out, HY.out, e]
     ·exact hN.out n (by omega)
    clear e hN
    go_wp2
    go_roundw
    case rel => exact ⟨j + 1, by omega, by simp, hE, by first | trivial | rfl⟩
    case measure => simp [intOf]; omega
   ·have t1 : (y == x) = false := by simpa using e
    have t1' : (y != x) = true := by simpa using e
    have hf : Hid (R = false) := by
     unfold Hid
     rw [HR.out]
     refine decide_eq_false fun h => e ?_
     have h1 := HY.out
     rw [h.2.1, HX.out] at h1
     exact (Option.some.inj h1).symm
    clear e hN
    go_wp2
    go_ret
    exact ⟨ret_bool hf.out.symm, HB.out⟩
  have tj : decide ((j : Int) < (hol.length : Int)) = false := decide_eq_false (by omega)
  have HEH : Hid (s.hol = hol) := List.ext_getElem? fun n => by
   by_cases hn : n < hol.length
   ·exact hN.out n (by omega)
   ·rw [List.getElem?_eq_none (by have := HE2.out; omega), List.getElem?_eq_none (by omega)]
  clear hN
  go_upto_region 10 with (fail)
  clear tj hlt
  go_loopw [51] (fun y WR => ∃ j : Nat, j ≤ oc.length ∧ y = .int .i64 j ∧ Hid (∀ n, n < j → (s.marks[n]?).map Mk.tri = (oc[n]?).map Out.tri) ∧ Hid (Below X.heap.size X WR)) (fun y _ => 2000000 - (intOf y).toNat)
  case atStart => exact ⟨0, by omega, rfl, fun n h => absurd h (by omega), Below.refl _ _⟩
  case round =>
   obtain ⟨j, hj, rfl, hN, hBR⟩ := hrel
   by_cases hlt : j < oc.length
   ·have tj : decide ((j : Int) < (oc.length : Int)) = true := decide_eq_true (by omega)
    have hlt2 : j < s.marks.length := by have := HE3.out; omega
    have HBW := Lib.hid (below_then HB.out hBR.out)
    obtain ⟨x, hx⟩ : ∃ h, oc[j]? = some h := ⟨_, qzJ hlt⟩
    obtain ⟨y, hy⟩ : ∃ h, s.marks[j]? = some h := ⟨_, qzJ hlt2⟩
    obtain ⟨b0, o0, eA0, hb0, hc0⟩ := segAt ((HO.out.below HBW.out).more HBW.out.size) hx
    have hix := fun W => idx_at (t := 37) (size := 5) (cap := co) eA0 hlt (by kernel_rfl) (fun W => by kernel_rfl) W
    have hrg : wr.rangeAt b0 (o0 + j * 5) (oL x) := fun j v hv => hc0 j v hv
    have HX := Lib.hid hx
    have HY := Lib.hid hy
    clear hc0 eA0 hx hy
    go_upto_region 12 with ((refine wpList_elem4 54 elOu _ _ _ _ _ rfl rfl rfl rfl rfl rfl rfl rfl rfl rfl rfl rfl b0 _ rfl (oL x) rfl hrg (by simp [Value.oneCell']) (by decide) (by decide) (by decide) (by simp) (by simp) (.int .i64 (j : Nat)) rfl ?_; simp only [Act.put, qzG, qzH, qzI]))
    refine name_wp ?_
    intro V hV
    have go_ : Blk V wr.heap.size 54 (oL x).toArray := by rw [hV]; exact Blk.new _ _ _
    have HBV : Hid (Below wr.heap.size wr V) := by rw [hV]; exact wa1 _ _
    obtain ⟨bo, ebo⟩ : ∃ b, wr.heap.size = b := ⟨_, rfl⟩
    rw [ebo] at go_ ⊢
    have GO := Lib.hid go_
    clear hV hrg hix hb0 go_ ebo
    have HBV2 := Lib.hid (below_then HBW.out HBV.out)
    obtain ⟨b1, o1, eA1, hb1, hc1⟩ := segAt (HS.out.then_ HBV2.out).m HY.out
    have hiy := fun W => idx_at (t := 41) (size := 5) (cap := q.mc) eA1 hlt2 (by kernel_rfl) (fun W => by kernel_rfl) W
    have hrg : V.rangeAt b1 (o1 + j * 5) (mL y) := fun j v hv => hc1 j v hv
    have s3 : V.cell? ⟨bs, 3, none⟩ = some (.slice q.m s.marks.length q.mc) := (GS.out.then_ (below_then hBR.out HBV.out)).cell 3
    clear hc1 eA1
    go_upto_region 13 with ((refine wpList_elem 46 elM _ _ _ rfl rfl rfl rfl rfl rfl rfl rfl rfl b1 _ rfl (mL y) rfl hrg (by simp [Value.oneCell']) (by decide) (by simp) (by simp) ?_; simp only [Act.put, qzG, qzH, qzI]))
    refine name_wp ?_
    intro U hU
    have gm : Blk U V.heap.size 46 (mA y) := by rw [hU]; exact Blk.new _ _ _
    have HBU : Hid (Below V.heap.size V U) := by rw [hU]; exact wa1 _ _
    have gx := GO.out.then_ HBU.out
    obtain ⟨bm, ebm⟩ : ∃ b, V.heap.size = b := ⟨_, rfl⟩
    rw [ebm] at gm ⊢
    have HBF := Lib.hid (below_then hBR.out (below_then HBV.out HBU.out))
    have m0 : U.cell? ⟨bm, 0, none⟩ = some (.int .i64 y.st) := gm.cell 0
    have m2 : U.cell? ⟨bm, 2, none⟩ = some (.int .i64 y.got) := gm.cell 2
    have m3 : U.cell? ⟨bm, 3, none⟩ = some (.int .i64 y.brr) := gm.cell 3
    have o0_ : U.cell? ⟨bo, 0, none⟩ = some (.int .i64 x.st) := gx.cell 0
    have o3_ : U.cell? ⟨bo, 3, none⟩ = some (.int .i64 x.got) := gx.cell 3
    have o4_ : U.cell? ⟨bo, 4, none⟩ = some (.int .i64 x.brr) := gx.cell 4
    clear hU hrg hiy hb1 s3 gm gx ebm HBU HBV HBV2
    have bad : y.tri ≠ x.tri → Hid (R = false) := fun e => by
     unfold Hid
     rw [HR.out]
     refine decide_eq_false fun h => e ?_
     have h1 := congrArg (fun l => l[j]?) h.2.2
     simp only [List.getElem?_map, HX.out, HY.out, Option.map_some, Option.some.injEq] at h1
     exact h1
    have good : y.tri = x.tri → Hid (∀ n, n < j + 1 → (s.marks[n]?).map Mk.tri = (oc[n]?).map Out.tri) := fun e n hn => by
     by_cases en : n = j
     ·rw [en, HX.out, HY.out, Option.map_some, Option.map_some, e]
     ·exact hN.out n (by omega)
    by_cases q1 : y.st = x.st
    case neg =>
     have t1 : (y.st != x.st) = true := by simpa using q1
     have t1' : (y.st == x.st) = false := by simpa using q1
     have hf := bad fun h => q1 (congrArg (·.1) h)
     clear q1 bad good
     go_wp2
     go_ret
     exact ⟨ret_bool hf.out.symm, below_then HB.out HBF.out⟩
    have t1 : (y.st != x.st) = false := by simpa using q1
    have t1' : (y.st == x.st) = true := by simpa using q1
    by_cases q2 : y.got = x.got
    case neg =>
     have t2 : (y.got != x.got) = true := by simpa using q2
     have t2' : (y.got == x.got) = false := by simpa using q2
     have hf := bad fun h => q2 (congrArg (fun z => z.2.1) h)
     clear q1 q2 bad good
     go_wp2
     go_ret
     exact ⟨ret_bool hf.out.symm, below_then HB.out HBF.out⟩
    have t2 : (y.got != x.got) = false := by simpa using q2
    have t2' : (y.got == x.got) = true := by simpa using q2
    by_cases q3 : y.brr = x.brr
    case neg =>
     have t3 : (y.brr != x.brr) = true := by simpa using q3
     have t3' : (y.brr == x.brr) = false := by simpa using q3
     have hf := bad fun h => q3 (congrArg (fun z => z.2.2) h)
     clear q1 q2 q3 bad good
     go_wp2
     go_ret
     exact ⟨ret_bool hf.out.symm, below_then HB.out HBF.out⟩
    have t3 : (y.brr != x.brr) = false := by simpa using q3
    have t3' : (y.brr == x.brr) = true := by simpa using q3
    have hE := good (by unfold Mk.tri Out.tri; rw [q1, q2, q3])
    clear q1 q2 q3 bad good hN
    go_wp2
    go_roundw
    case rel => exact ⟨j + 1, by omega, by simp, hE, HBF⟩
    case measure => simp [intOf]; omega
   have tj : decide ((j : Int) < (oc.length : Int)) = false := decide_eq_false (by omega)
   have hf : Hid (R = true) := by
    unfold Hid
    rw [HR.out]
    refine decide_eq_true ⟨HE1.out, HEH.out, List.ext_getElem? fun n => ?_⟩
    rw [List.getElem?_map, List.getElem?_map]
    by_cases hn : n < oc.length
    ·exact hN.out n (by omega)
    ·rw [List.getElem?_eq_none (by have := HE3.out; omega), List.getElem?_eq_none (by omega)]
     rfl
   go_wp2
   go_ret
   exact ⟨ret_bool hf.out.symm, below_then HB.out hBR.out⟩
end Go.Proofs.YtginnonjdbpamaaGreatDoor
/- The walk of validate.Agrees. -/
namespace Go.Proofs.YtginnonjdbpamaaGreatDoor
open Go.RowKit Go.Sort
attribute [local go_sem] Oper.semAt_some
abbrev rdAt (c : Con) (l : List Int) (j : Nat) : Rd := (l.take j).foldl (fun r x => r.step c x) c.read0
theorem reads_at (c : Con) : ∀ (l : List Int) (r : Rd) (j : Nat), j ≤ l.length → (reads c r l)[j]? = some ((l.take j).foldl (fun r x => r.step c x) r)
 | [], r, 0, _ => rfl
 | x :: l, r, 0, _ => rfl
 | x :: l, r, j + 1, h => by
  rw [reads, qzB, reads_at c l _ j (by simpa using h)]
  rfl
theorem rdAt_succ {c : Con} {l : List Int} {j : Nat} {x : Int} (h : l[j]? = some x) : rdAt c l (j + 1) = (rdAt c l j).step c x := by
 unfold rdAt
 rw [List.take_add_one, h, List.foldl_append]
 rfl
theorem rdAt_end {c : Con} {l : List Int} {j : Nat} (h : l.length ≤ j) : rdAt c l (j + 1) = rdAt c l j := by
 unfold rdAt
 rw [List.take_of_length_le h, List.take_of_length_le (by omega)]
theorem agL_step {S : List Sta} {R : List Rd} {j : Nat} {s : Sta} {r : Rd} (hs : S[j]? = some s) (hr : R[j]? = some r) : agL j (S.drop j) (R.drop j) = if agrR s r = true then agL (j + 1) (S.drop (j + 1)) (R.drop (j + 1)) else ((j : Int), false) := by
 obtain ⟨h1, e1⟩ := List.getElem?_eq_some_iff.1 hs
 obtain ⟨h2, e2⟩ := List.getElem?_eq_some_iff.1 hr
 rw [List.drop_eq_getElem_cons h1, List.drop_eq_getElem_cons h2, e1, e2, agL]
theorem agL_over {S : List Sta} {R : List Rd} {j : Nat} (h : S.length ≤ j) : agL j (S.drop j) (R.drop j) = (-1, true) := by
 rw [List.drop_eq_nil_of_le h]
 simp [agL]
theorem res_ib {fn : Func} {tmps : Array Value} {w : World} {r s g g2 : Nat} {v : Int} {b : Bool} (hres : fn.results = #[.cell r 3, .cell s 4]) (hp : tmps.getD r undef = .pointer (some ⟨g, 0, none⟩)) (hp2 : tmps.getD s undef = .pointer (some ⟨g2, 0, none⟩)) (c1 : w.cell? ⟨g, 0, none⟩ = some (.int .i64 v)) (c2 : w.cell? ⟨g2, 0, none⟩ = some (.bool b)) :
  (results fn tmps).run Tryz.prog w = .ok (.tuple #[.int .i64 v, .bool b]) w := by
 simp only [Array.getD_eq_getD_getElem?] at hp hp2
 simp [results, hres, hp, hp2, go_sem, c1, c2]
structure Stl (w : World) (A : Option Addr) (rows : List (Sta × Qm)) : Prop where
 s : Seg w w.heap.size 4 eQ A rows
 r : ∀ x ∈ rows, Stm w x.1 x.2
theorem Stl.then_ {w w' : World} {A : Option Addr} {rows : List (Sta × Qm)} (h : Stl w A rows) (hb : Below w.heap.size w w') : Stl w' A rows := ⟨(h.s.below hb).more hb.size, fun x hx => (h.r x hx).then_ hb⟩
structure AJ (w W : World) (c : Con) (m : Cm) (l : List Int) (A : Option Addr) (cap : Nat) (Av : Option Addr) (capv : Nat) (rows : List (Sta × Qm)) (ba bl bv r0 r1 s10 d11 ca cl j : Nat) : Prop where
 e : Below w.heap.size w W
 gl : Blk W bl 22 #[.slice A l.length cap]
 gv : Blk W bv 30 #[.slice Av rows.length capv]
 g0 : Blk W r0 3 #[.int .i64 0]
 g1 : Blk W r1 4 #[.bool false]
 gs : Blk W s10 3 #[.int .i64 (j : Nat)]
 gd : Blk W d11 3 #[.int .i64 (rdAt c l j).day]
 ca_ : Blk W ca 27 (coA c m)
 cl_ : Blk W cl 22 #[.slice A l.length cap]
 g : agL j ((rows.map (·.1)).drop j) ((reads c c.read0 l).drop j) = agL 0 (rows.map (·.1)) (reads c c.read0 l)
theorem AJ.below {w W W' : World} {c : Con} {m : Cm} {l : List Int} {A : Option Addr} {cap : Nat} {Av : Option Addr} {capv : Nat} {rows : List (Sta × Qm)} {ba bl bv r0 r1 s10 d11 ca cl j n : Nat} (h : AJ w W c m l A cap Av capv rows ba bl bv r0 r1 s10 d11 ca cl j) (hb : Below n W W') (hn : bl < n ∧ bv < n ∧ r0 < n ∧ r1 < n ∧ s10 < n ∧ d11 < n ∧ ca < n ∧ cl < n) (hw : w.heap.size ≤ n) :
  AJ w W' c m l A cap Av capv rows ba bl bv r0 r1 s10 d11 ca cl j :=
 ⟨h.e.trans (hb.mono hw), h.gl.below hb hn.1, h.gv.below hb hn.2.1, h.g0.below hb hn.2.2.1, h.g1.below hb hn.2.2.2.1, h.gs.below hb hn.2.2.2.2.1, h.gd.below hb hn.2.2.2.2.2.1, h.ca_.below hb hn.2.2.2.2.2.2.1, h.cl_.below hb hn.2.2.2.2.2.2.2, h.g⟩
end Go.Proofs.YtginnonjdbpamaaGreatDoor
/- The law for a range over trace.Course. -/
namespace Go.Proofs.YtginnonjdbpamaaGreatDoor
open Go.RowKit Go.Sort
theorem YieldAt.mono_ {F : Fence} {m : Nat} {P : Program} {l : Nat} {args : Array Value} {W : World} {R R' : Ending → World → Prop} (h : YieldAt F m P l args W R) (hr : ∀ e w', R e w' → R' e w') : YieldAt F m P l args W R' := by
 obtain ⟨fn, tmps, asg, bd, hy, hR⟩ := h
 exact ⟨fn, tmps, asg, bd, hy, hR.mono hr⟩
def rqPost (p : Nat → Prop) (W : World) (I X : World → Prop) : Exit → Act → World → Prop
 | .normal, _, W3 => Kept W W3 p ∧ I W3
 | .ret, _, W3 => Kept W W3 p ∧ X W3
 | _, _, _ => False
theorem notOut_rq {p : Nat → Prop} {W : World} {I X : World → Prop} : ¬ LetsOut (rqPost p W I X) := fun ⟨_, _, hq⟩ => hq
instance notC_rq {p : Nat → Prop} {W : World} {I X : World → Prop} : NotC (rqPost p W I X) := ⟨notOut_rq⟩
theorem panOk_rq {p : Nat → Prop} {W : World} {I X : World → Prop} : PanOk (rqPost p W I X) := fun _ _ _ _ _ h => h
instance panC_rq {p : Nat → Prop} {W : World} {I X : World → Prop} : PanC (rqPost p W I X) := ⟨panOk_rq⟩
theorem assign2 {l n : Nat} {P : Program} {K : Act → World → Prop} {a : Act} {W : World} {r1 r2 : Nat} {o1 o2 : Oper} {p0 p1 d0 d1 : Tmp} {v0 v1 : Value} (h1 : o1.op = .assign (.tmp p0)) (h2 : o2.op = .assign (.tmp p1)) (e1 : o1.dst = some d0) (e2 : o2.dst = some d1) (g1 : o1.guard = none) (g2 : o2.guard = none)
  (a0 : a.eval (.tmp p0) = v0) (a1 : (a.put (some d0) v0).eval (.tmp p1) = v1) (hK : K ((a.put (some d0) v0).put (some d1) v1) W) :
  ((Code.region r1 #[o1] false).seq (Code.region r2 #[o2] false)).wpIn (Fence.wide.inRound l) n P (Exit.then K (fun _ _ _ => False)) a W := by
 have hno : ¬ LetsOut (fun (_ : Exit) (_ : Act) (_ : World) => False) := fun ⟨_, _, h⟩ => h
 refine wpIn_seq_k fun K2 hK2 => ?_
 refine regionIn_list (l := [o1]) (by simp [noD, h1]) (notOut_then (notOut_then hno)) ?_
 refine wpList_plain g1 fun K' hK' => ?_
 unfold Oper.wp execOp
 simp only [h1]
 refine hK' _ _ ?_
 rw [e1, a0]
 refine hK2 _ _ ?_
 refine regionIn_list (l := [o2]) (by simp [noD, h2]) (notOut_then hno) ?_
 refine wpList_plain g2 fun K' hK' => ?_
 unfold Oper.wp execOp
 simp only [h2]
 refine hK' _ _ ?_
 rw [e2, a1]
 exact hK
theorem seg_upd {α : Type} {w w' : World} {size g gh : Nat} {enc : α → List Value} {xs : List α} (h : Seg w w.heap.size size enc (some ⟨gh, 0, none⟩) xs) (u : Upd w w' g) (hg : gh ≠ g) : Seg w' w'.heap.size size enc (some ⟨gh, 0, none⟩) xs := fun k x hx => by
 obtain ⟨b, off, e, hb, hc⟩ := h k x hx
 cases e
 exact ⟨gh, 0, rfl, by rw [u.s]; exact hb, fun j v hv => (World.cell?_of_block (w := w) (w' := w') (a := ⟨gh, 0 + k * size + j, none⟩) (u.f gh hg)).trans (hc j v hv)⟩
theorem course_range {ps : Array Tmp} {assign body : Code} {Q : Exit → Act → World → Prop} {a : Act} {Z w : World} {g : Operand} {c : Con} {m : Cm} {l : List Int} {A : Option Addr} {cap ca cl : Nat} (p0 p1 d0 d1 : Tmp) (r1 r2 : Nat) (o1 o2 : Oper)
  (hg : a.eval g = .func (.func 60) #[] #[.pointer (some ⟨ca, 0, none⟩), .pointer (some ⟨cl, 0, none⟩)]) (hps : ps = #[p0, p1]) (has : assign = (Code.region r1 #[o1] false).seq (Code.region r2 #[o2] false))
  (ho1 : o1.op = .assign (.tmp p0)) (ho2 : o2.op = .assign (.tmp p1)) (e1 : o1.dst = some d0) (e2 : o2.dst = some d1) (g1 : o1.guard = none) (g2 : o2.guard = none) (s0 : p0 < a.tmps.size) (s1 : p1 < a.tmps.size) (hne : p0 ≠ p1) (hd : d0 ≠ p1)
  (hk : c.chk l = 0) (hC : Cont w c m) (hA : Seg w w.heap.size 1 eI A l) (_hcap : Nat) (p : Nat → Prop) (hp : ∀ x, p x → x < Z.heap.size) (J : Nat → World → Prop) (X : World → Prop) (hJ : ∀ i W W', J i W → Below Z.heap.size W W' → J i W') (hX : ∀ W W', X W → Below Z.heap.size W W' → X W')
  (hb : ∀ i W, J i W → Blk W ca 27 (coA c m) ∧ Blk W cl 22 #[.slice A l.length cap]) (he : ∀ i W, J i W → Below w.heap.size w W) (hw : w.heap.size ≤ Z.heap.size) (h0 : J 0 Z)
  (hbody : ∀ (lp i : Nat) (W : World) (r : Rd) (gh ch go co : Nat), i ≤ l.length → J i W → Z.heap.size + 1 < W.heap.size → r = (l.take i).foldl (fun r x => r.step c x) c.read0 → r.hol.length = c.hold.length ∧ r.oc.length = c.cl.length → Seg W W.heap.size 1 eI (some ⟨gh, 0, none⟩) r.hol → Seg W W.heap.size 5 eO (some ⟨go, 0, none⟩) (r.oc.map (·.1)) →
   body.wpIn (Fence.wide.inRound lp) (6 - 1 - 1) Tryz.prog (rqPost p W (J (i + 1)) X) (({ tmps := (a.tmps.setIfInBounds p0 (.slice (some ⟨gh, 0, none⟩) r.hol.length ch)).setIfInBounds p1 (.slice (some ⟨go, 0, none⟩) r.oc.length co), defers := [] } : Act).put (some d0) (.slice (some ⟨gh, 0, none⟩) r.hol.length ch) |>.put (some d1) (.slice (some ⟨go, 0, none⟩) r.oc.length co)) W)
  (hdone : ∀ (D : Nat) (W : World), Z.heap.size ≤ D → J (l.length + 1) W → W.heap[D]? = some (.deferred (some [])) → Q .normal { a with defers := { target := .collected D, args := #[] } :: a.defers } W)
  (hret : ∀ (D : Nat) (W : World), Z.heap.size ≤ D → X W → W.heap[D]? = some (.deferred (some [])) → Q .ret { a with defers := { target := .collected D, args := #[] } :: a.defers } W) :
  (Code.rangeFunc g ps assign body).wp Tryz.prog Q a Z := by
 subst hps has
 refine (wpIn_wide (n := 6)).1 ?_
 refine wpIn_rangeFunc_open rfl (by omega) hg trivial (enters_of Tryz.func60 (by kernel_rfl) rfl) ?_
 rintro lp Rec RecX rfl hRec hRecX hlt hround W1 hR1 hb1 hs1
 have hcj : CJ w c m l A cap ca cl (Z.heap.size + 2) (fun i W => Rec W ∧ J i W) :=
  ⟨fun i W h => by have := hlt W h.1; omega, fun i W W' h hb' => ⟨hRec W W' h.1 hb', hJ i W W' h.2 (hb'.mono (by omega))⟩, fun i W h => hb i W h.2, fun i W h => he i W h.2, by omega, hC, hA⟩
 refine (course1_in (6 - 1) (Z.heap.size + 1) (Z.heap.size + 2) (by omega) w c m l A cap ca cl hk (fun x => p x ∨ x = Z.heap.size + 1) (fun x hx => by rcases hx with hx | hx; have := hp x hx; omega; omega) (fun i W => Rec W ∧ J i W) (fun W => ∃ cd, RecX cd W ∧ cd = .ret ∧ X W) hcj ?_ W1 ⟨hR1, hJ 0 Z W1 h0 hb1⟩).mono ?_
 ·intro i W r gh ch go co hi hJi hr hgo hln sh so
  have hl := hlt W hJi.1
  refine YieldAt.mono_ (hround #[.slice (some ⟨gh, 0, none⟩) r.hol.length ch, .slice (some ⟨go, 0, none⟩) r.oc.length co] W (({ tmps := (a.tmps.setIfInBounds p0 (.slice (some ⟨gh, 0, none⟩) r.hol.length ch)).setIfInBounds p1 (.slice (some ⟨go, 0, none⟩) r.oc.length co), defers := [] } : Act).put (some d0) (.slice (some ⟨gh, 0, none⟩) r.hol.length ch) |>.put (some d1) (.slice (some ⟨go, 0, none⟩) r.oc.length co))
   (fun W' => J (i + 1) W' ∧ Kept W W' (fun x => p x ∨ x = Z.heap.size + 1)) (fun cd W' => cd = .ret ∧ X W') hJi.1 (by simp) (fun K hK => ?_) (fun W2 u => ?_)) ?_
  ·simp only [List.zip_toArray, List.zip_cons_cons, List.zip_nil_right, List.size_toArray, List.length_cons, List.length_nil, List.foldl_toArray', List.foldl_cons, List.foldl_nil]
   refine assign2 ho1 ho2 e1 e2 g1 g2 ?_ ?_ hK
   ·simp [Act.eval, s0, hne.symm]
   ·simp [Act.eval, Act.put, s1, hd]
  ·have hb2 : Below Z.heap.size W W2 := u.b _ (by omega)
   have lW : Z.heap.size ≤ W.heap.size := by omega
   have k2 : Kept W W2 (fun x => p x ∨ x = Z.heap.size + 1) := Kept.of_upd u (.inr rfl)
   refine wpIn_mono (hbody (Z.heap.size + 1) i W2 r gh ch go co hi (hJ _ _ _ hJi.2 hb2) (by rw [u.s]; exact hl) hr hln ?_ ?_) ?_
   ·exact seg_upd sh u (by omega)
   ·exact seg_upd so u (by omega)
   ·rintro e a3 W3 hq
    cases e with
    | normal =>
     obtain ⟨hk3, hi3⟩ := hq
     refine ⟨hk3.k _ (by rw [u.s]; exact hl) (fun hx => by have := hp _ hx; omega), hk3.k _ (by rw [u.s]; omega) (fun hx => by have := hp _ hx; omega), fun W4 u4 => ⟨hJ _ _ _ hi3 (u4.b _ (by omega)), (k2.trans (hk3.weak fun x hx => .inl hx)).trans (Kept.of_upd u4 (.inr rfl))⟩⟩
    | ret =>
     obtain ⟨hk3, hi3⟩ := hq
     exact ⟨hk3.k _ (by rw [u.s]; exact hl) (fun hx => by have := hp _ hx; omega), hk3.k _ (by rw [u.s]; omega) (fun hx => by have := hp _ hx; omega), fun W4 u4 => ⟨rfl, hX _ _ hi3 (u4.b _ (by omega))⟩⟩
    | exit id => exact hq.elim
    | goto t => exact hq.elim
    | panic ch => exact hq.elim
    | outgrown => exact hq.elim
  ·rintro e W' (⟨rfl, h1, h2⟩ | ⟨rfl, cd, h1, h2⟩)
   ·exact ⟨true, rfl, fun _ => ⟨⟨h1, h2.1⟩, h2.2⟩, fun h => by cases h⟩
   ·exact ⟨false, rfl, fun h => (by cases h), fun _ => ⟨cd, h1, h2.1, h2.2⟩⟩
 ·rintro e W' ⟨hv, h | ⟨cd, h1, rfl, h2⟩⟩
  ·exact ⟨hv, .inl ⟨h.1, fun W4 u hK => hdone _ W4 (Nat.le_refl _) (hJ _ _ _ h.2 (u.b _ (by omega))) hK⟩⟩
  ·refine ⟨hv, .inr ⟨.ret, h1, fun W4 u hK => wpIn_ret (hret _ W4 (Nat.le_refl _) (hX _ _ h2 (u.b _ (by omega))) hK)⟩⟩
end Go.Proofs.YtginnonjdbpamaaGreatDoor
