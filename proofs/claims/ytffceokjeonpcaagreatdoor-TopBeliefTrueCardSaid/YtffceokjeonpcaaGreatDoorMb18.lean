/- Contracts of functions and plain laws, joined: Un, Up, Tz3, Xo2. -/
import Derived.Test.YtffceokjeonpcaaGreatDoorMb17
import Derived.Test.YtffceokjeonpcaaGreatDoorMb11
import Derived.Test.YtffceokjeonpcaaGreatDoorMb14
import Derived.Test.YtffceokjeonpcaaGreatDoorMb15
import Derived.Test.YtffceokjeonpcaaGreatDoorMb12
import Derived.Test.YtffceokjeonpcaaGreatDoorTie
import Derived.Test.YtffceokjeonpcaaGreatDoorRows
import Derived.Test.YtffceokjeonpcaaGreatDoorChecked
import Derived.HandedShaped
import Derived.LaidMore
import Derived.Lay
import Derived.Stop.Joined
import Derived.Stop.LaidErr
import Derived.Lib.LaidU8
import Derived.MakeChecks
import Derived.Test.YtffceokjeonpcaaGreatDoorMb1
set_option maxHeartbeats 12800000
set_option maxRecDepth 100000
namespace Go.Proofs.YtffceokjeonpcaaGreatDoor
open Go.RowKit Go.Sort Go.Maps
theorem wpHB_cast {P : Program} {md : Region.Mode} {ops : Array Oper} {Q : Exit → Act → World → Prop} {S : World → Prop} {hs ts : List Nat} {f f' : Nat} {l l' : Array Bool} {a : Act} {w : World} (hl : l = l') (hf : f = f') (h : wpHB P md ops Q S hs ts f' l' a w) : wpHB P md ops Q S hs ts f l a w := by
 subst hl hf; exact h
structure NewP (w Y : World) (c : Con) (r : List Nat) (v3 v7 v8 v12 v16 : Value) (W : World) : Prop where
 h : 3 ∉ r → ∃ g cap, v3 = .slice (some ⟨g, 0, none⟩) c.hold.length cap ∧ Own W Y.heap.size 3 1 eI v3 c.hold
 a : 7 ∉ r → ∃ g, v7 = .slice (some ⟨g, 0, none⟩) c.ac.length c.ac.length ∧ Own W Y.heap.size 4 1 eB v7 (List.replicate c.ac.length false)
 m : 8 ∉ r → ∃ g, v8 = .map (some g) ∧ MapF W g 0 (fun _ => .slice none 0 0) ∧ Y.heap.size ≤ g
 k : 12 ∉ r → ∃ g, v12 = .slice (some ⟨g, 0, none⟩) c.cl.length c.cl.length ∧ Own W Y.heap.size 161 2 eC v12 (List.replicate c.cl.length ⟨0, false⟩)
 o : 16 ∉ r → ∃ g, v16 = .slice (some ⟨g, 0, none⟩) c.cl.length c.cl.length ∧ Own W Y.heap.size 57 5 eO v16 (List.replicate c.cl.length ⟨0, 0, 0, 0, 0⟩)
theorem NewP.then_ {w Y : World} {c : Con} {r : List Nat} {v3 v7 v8 v12 v16 : Value} {W W' : World} (h : NewP w Y c r v3 v7 v8 v12 v16 W) (hb : Below W.heap.size W W') : NewP w Y c r v3 v7 v8 v12 v16 W' :=
 ⟨fun e => by obtain ⟨g, cap, h1, h2⟩ := h.h e; exact ⟨g, cap, h1, h2.below hb⟩, fun e => by obtain ⟨g, h1, h2⟩ := h.a e; exact ⟨g, h1, h2.below hb⟩, fun e => by obtain ⟨g, h1, h2, h3⟩ := h.m e; exact ⟨g, h1, h2.keep (hb.block _ h2.lt), h3⟩, fun e => by obtain ⟨g, h1, h2⟩ := h.k e; exact ⟨g, h1, h2.below hb⟩, fun e => by obtain ⟨g, h1, h2⟩ := h.o e; exact ⟨g, h1, h2.below hb⟩⟩
theorem wp_appL {w : World} {o : Oper} {a : Act} {K : Act → World → Prop} {Q : Exit → Act → World → Prop} (s x : Operand) (ho : o.op = .call { callee := .builtin .append, args := #[s, x], argTypes := #[22, 22] })
  (i : TypeInfo) (hi : Tryz.prog.info? 3 = some i) (hz : i.zero = some (.int .i64 0)) (hsize : i.size = 1) (hby : i.bytes = 8)
  (B : Nat) (v : Value) (xs : List Int) (hs : a.eval s = v) (hown : Own w B 3 1 eI v xs) (hl : xs.length ≤ 1000000) (g c : Nat) (y : Int) (hx : a.eval x = .slice (some ⟨g, 0, none⟩) 1 c) (hblk : Blk w g 3 (eI y).toArray) (hbase : B ≤ w.heap.size)
  (h : ∀ v' w', Own w' B 3 1 eI v' (xs ++ [y]) → w.grownBy w' v.ownBlock → (v'.ownBlock = v.ownBlock ∨ v'.ownBlock = some w.heap.size) → K (a.put o.dst v') w') : o.wp Tryz.prog a w K Q := by
 obtain ⟨v', w', hr, h2, h3, _, h5⟩ := run_append_own_at (P := Tryz.prog) w B 22 o.type 3 i _ 1 8 Tryz.underlying22 hi hz hsize hby rfl (by decide) v xs.length (xs.flatMap eI) hown ⟨g, 0, none⟩ 1 c (eI y) rfl (by
  intro j u hu
  have hadd : (⟨g, 0, none⟩ : Addr).add j = ⟨g, j, none⟩ := by unfold Addr.add; split <;> simp_all
  rw [hadd, hblk.cell j]; simpa using hu) (by intro u hu; simp only [eI, List.mem_cons, List.not_mem_nil, or_false] at hu; subst hu; rfl) (by unfold maxLen; omega) (by omega) hbase
 unfold Oper.wp execOp
 simp only [ho, resolve, invoke, builtin, Sem.run_bind, Sem.run_pure, Result.andThen_ok, List.map_toArray, List.map_cons, List.map_nil, hs, hx, hr]
 refine h v' w' ?_ h3 h5
 unfold Own
 rw [List.length_append, List.flatMap_append]
 simpa using h2
theorem xA7 {r : List Nat} {i j : Nat} (h : i ∉ r.erase j) (hij : i ≠ j) : i ∉ r := fun h2 => h ((List.mem_erase_of_ne hij).2 h2)
theorem begin_any (c : Con) (m : Cm) (w : World) (hC : Cont w c m) (hok : c.ok = true) : Calls Tryz.prog 59 #[.agg (coA c m)] w fun e w' => ∃ b wl q, e = .returned (.pointer (some ⟨b, 0, none⟩)) ∧ Rdm w w' b c m c.read0 wl q ∧ RG c c.read0 wl ∧ q.n ≤ 1000000 ∧ Below w.heap.size w w' := by
 have HC := qzL hC
 have HOK := qzL hok
 have nh := hC.nh
 have na := hC.na
 have nk := hC.nk
 have ch := hC.ch
 have hcl := ok_cl hok
 obtain ⟨_, _, hh0, _⟩ := xGj hok
 clear hC hok
 go_enter Tryz.func59, Tryz.ntmps59
 go_upto_region 1 with (fail)
 refine xAi ?_
 intro Y hY
 have gaY : Blk Y w.heap.size 27 (coA c m) := by rw [hY]; exact Blk.new _ _ _
 have hYB : Hid (Below w.heap.size w Y) := by rw [hY]; exact wa1 _ _
 obtain ⟨ba, eba⟩ : ∃ b, w.heap.size = b := ⟨_, rfl⟩
 rw [eba] at gaY ⊢
 have lba : Hid (w.heap.size ≤ ba) := by unfold Hid; omega
 clear hY eba
 have lwY := hYB.out.size
 have HCL : Hid (∀ W, Below Y.heap.size Y W → Calls Tryz.prog 45 #[.slice m.h c.hold.length m.hc] W fun e w' => (∃ g cap, e = .returned (.slice (some ⟨g, 0, none⟩) c.hold.length cap) ∧ Own w' Y.heap.size 3 1 eI (.slice (some ⟨g, 0, none⟩) c.hold.length cap) c.hold) ∧ Below W.heap.size W w') := fun W hb =>
  (xH8 m.h m.hc c.hold W nh (HC.out.then_ (xAa hYB.out hb)).h ch).mono fun e w' ⟨⟨v, h1, h2⟩, h3⟩ => by
   obtain ⟨g, cap, h4, h5, h6⟩ := own_some h2 hh0
   subst h4
   exact ⟨⟨g, cap, h1, h5.more (by have := hb.size; omega)⟩, h3⟩
 obtain ⟨i2, hi2, hz20, hz21, hz22⟩ := info_parts (show (Tryz.prog.info? 4).map (fun i => (i.zero, i.size, i.bytes)) = some (some (.bool false), 1, 1) by kernel_rfl)
 obtain ⟨i3, hi3, hz30, hz31, hz32⟩ := info_parts (show (Tryz.prog.info? 161).map (fun i => (i.zero, i.size, i.bytes)) = some (some (.agg #[.int .i64 0, .bool false]), 2, 16) by kernel_rfl)
 obtain ⟨i4, hi4, hz40, hz41, hz42⟩ := info_parts (show (Tryz.prog.info? 57).map (fun i => (i.zero, i.size, i.bytes)) = some (some (.agg #[.int .i64 0, .int .i64 0, .int .i64 0, .int .i64 0, .int .i64 0]), 5, 40) by kernel_rfl)
 obtain ⟨i5, hi5, hz50, hz51, hz52⟩ := info_parts (show (Tryz.prog.info? 3).map (fun i => (i.zero, i.size, i.bytes)) = some (some (.int .i64 0), 1, 8) by kernel_rfl)
 have hm2 : ∀ W : World, (Instr.makeSlice 44 (.int .i64 (c.ac.length : Nat)) (.int .i64 (c.ac.length : Nat))).run Tryz.prog W = _ := fun W => xEh (enc := eB) (y := false) Tryz.underlying44 hi2 hz20 hz21 hz22 (by omega) rfl (by omega) W
 have hm3 : ∀ W : World, (Instr.makeSlice 84 (.int .i64 (c.cl.length : Nat)) (.int .i64 (c.cl.length : Nat))).run Tryz.prog W = _ := fun W => xEh (enc := eC) (y := ⟨0, false⟩) Tryz.underlying84 hi3 hz30 hz31 hz32 (by omega) rfl (by omega) W
 have hm4 : ∀ W : World, (Instr.makeSlice 52 (.int .i64 (c.cl.length : Nat)) (.int .i64 (c.cl.length : Nat))).run Tryz.prog W = _ := fun W => xEh (enc := eO) (y := ⟨0, 0, 0, 0, 0⟩) Tryz.underlying52 hi4 hz40 hz41 hz42 (by omega) rfl (by omega) W
 have hmm := @run_makeMap Tryz.prog
 go_cut [3] from 9 to 27 (fun v W => ∃ (b' : Nat) (v3 v7 v8 v12 v16 : Value), v = .pointer (some ⟨b', 0, none⟩) ∧ Hid (NewP w Y c [] v3 v7 v8 v12 v16 W) ∧ Hid (Below Y.heap.size Y W) ∧ Hid (Y.heap.size ≤ b') ∧ Hid (Blk W b' 86 #[.int .i64 c.par, .slice m.h c.hold.length m.hc, .slice m.u c.un.length m.uc, .slice m.a c.ac.length m.ac, .slice m.k c.cl.length m.kc, .int .i64 c.days, .slice m.o c.off.length m.oc, .int .i64 0, .int .i64 0, v3, v7, .nilFunc, v8, v12, v16]))
 case first =>
  refine xBf (fun w' => Hid (Below Y.heap.size Y w')) [0, 1, 2, 3, 4, 5, 6, 7, 8, 9, 10, 11, 12, 13, 14, 15, 16, 17] [18, 19] (by kernel_rfl) (by kernel_rfl) pO (qzL (Below.drew (Below.refl _ _))) (fun hdir hsel hpan hHeld => ?_)
  refine xAd (i := 0) (oi := ⟨some 9, _, _, _, _, _⟩) hdir hsel hpan rfl (by kernel_rfl) (by kernel_rfl) (by kernel_rfl) (yieldsIf_row (by rfl) 27 _ rfl ba rfl 27 _ (fun w hw => (gaY.then_ hw.out)) ⟨_, Tryz.underlying27⟩ (by kernel_rfl)) (by assumption) ?_
  try simp only [Act.put, qzG, qzI, qzH]
  refine xAd (i := 1) (oi := ⟨some 10, _, _, _, _, _⟩) (v := .pointer (some ⟨ba, 1, none⟩)) hdir hsel hpan rfl (by kernel_rfl) (by kernel_rfl) (by kernel_rfl) (Or.inl ⟨by rfl, fun w hw => by go_simp⟩) (by assumption) ?_
  try simp only [Act.put, qzG, qzI, qzH]
  refine xAd (i := 2) (oi := ⟨some 11, _, _, _, _, _⟩) (v := .slice m.h c.hold.length m.hc) hdir hsel hpan rfl (by kernel_rfl) (by kernel_rfl) (by kernel_rfl) (Or.inl ⟨by rfl, fun w hw => by have hc := (gaY.then_ hw.out).cell 1; go_simp⟩) (by assumption) ?_
  try simp only [Act.put, qzG, qzI, qzH]
  refine xAd (i := 4) (oi := ⟨some 13, _, _, _, _, _⟩) (v := .pointer (some ⟨ba, 3, none⟩)) hdir hsel hpan rfl (by kernel_rfl) (by kernel_rfl) (by kernel_rfl) (Or.inl ⟨by rfl, fun w hw => by go_simp⟩) (by assumption) ?_
  try simp only [Act.put, qzG, qzI, qzH]
  refine xAd (i := 5) (oi := ⟨some 14, _, _, _, _, _⟩) (v := .slice m.a c.ac.length m.ac) hdir hsel hpan rfl (by kernel_rfl) (by kernel_rfl) (by kernel_rfl) (Or.inl ⟨by rfl, fun w hw => by have hc := (gaY.then_ hw.out).cell 3; go_simp⟩) (by assumption) ?_
  try simp only [Act.put, qzG, qzI, qzH]
  refine xAd (i := 6) (oi := ⟨some 15, _, _, _, _, _⟩) (v := .int .i64 (c.ac.length : Nat)) hdir hsel hpan rfl (by kernel_rfl) (by kernel_rfl) (by kernel_rfl) (Or.inl ⟨by rfl, fun w hw => by go_simp⟩) (by assumption) ?_
  try simp only [Act.put, qzG, qzI, qzH]
  refine xAd (i := 9) (oi := ⟨some 18, _, _, _, _, _⟩) (v := .pointer (some ⟨ba, 4, none⟩)) hdir hsel hpan rfl (by kernel_rfl) (by kernel_rfl) (by kernel_rfl) (Or.inl ⟨by rfl, fun w hw => by go_simp⟩) (by assumption) ?_
  try simp only [Act.put, qzG, qzI, qzH]
  refine xAd (i := 10) (oi := ⟨some 19, _, _, _, _, _⟩) (v := .slice m.k c.cl.length m.kc) hdir hsel hpan rfl (by kernel_rfl) (by kernel_rfl) (by kernel_rfl) (Or.inl ⟨by rfl, fun w hw => by have hc := (gaY.then_ hw.out).cell 4; go_simp⟩) (by assumption) ?_
  try simp only [Act.put, qzG, qzI, qzH]
  refine xAd (i := 11) (oi := ⟨some 20, _, _, _, _, _⟩) (v := .int .i64 (c.cl.length : Nat)) hdir hsel hpan rfl (by kernel_rfl) (by kernel_rfl) (by kernel_rfl) (Or.inl ⟨by rfl, fun w hw => by go_simp⟩) (by assumption) ?_
  try simp only [Act.put, qzG, qzI, qzH]
  refine xAd (i := 13) (oi := ⟨some 22, _, _, _, _, _⟩) (v := .pointer (some ⟨ba, 4, none⟩)) hdir hsel hpan rfl (by kernel_rfl) (by kernel_rfl) (by kernel_rfl) (Or.inl ⟨by rfl, fun w hw => by go_simp⟩) (by assumption) ?_
  try simp only [Act.put, qzG, qzI, qzH]
  refine xAd (i := 14) (oi := ⟨some 23, _, _, _, _, _⟩) (v := .slice m.k c.cl.length m.kc) hdir hsel hpan rfl (by kernel_rfl) (by kernel_rfl) (by kernel_rfl) (Or.inl ⟨by rfl, fun w hw => by have hc := (gaY.then_ hw.out).cell 4; go_simp⟩) (by assumption) ?_
  try simp only [Act.put, qzG, qzI, qzH]
  refine xAd (i := 15) (oi := ⟨some 24, _, _, _, _, _⟩) (v := .int .i64 (c.cl.length : Nat)) hdir hsel hpan rfl (by kernel_rfl) (by kernel_rfl) (by kernel_rfl) (Or.inl ⟨by rfl, fun w hw => by go_simp⟩) (by assumption) ?_
  try simp only [Act.put, qzG, qzI, qzH]
  refine wpHB_cast (l' := lstF 20 ([3, 7, 8, 12, 16] ++ [17, 18, 19])) (f' := 1 + 5) (by kernel_rfl) rfl ?_
  refine wpHB_set (ops := _) (later := [17, 18, 19]) (rem := [3, 7, 8, 12, 16]) (f := 1) (fun r a W => ∃ v3 v7 v8 v12 v16, a = ({ tmps := #[.agg (coA c m), .pointer (some ⟨ba, 0, none⟩), .pointer none, undef, undef, undef, undef, undef, undef, .agg (coA c m), .pointer (some ⟨ba, 1, none⟩), .slice m.h c.hold.length m.hc, v3, .pointer (some ⟨ba, 3, none⟩), .slice m.a c.ac.length m.ac, .int .i64 (c.ac.length : Nat), v7, v8, .pointer (some ⟨ba, 4, none⟩), .slice m.k c.cl.length m.kc, .int .i64 (c.cl.length : Nat), v12, .pointer (some ⟨ba, 4, none⟩), .slice m.k c.cl.length m.kc, .int .i64 (c.cl.length : Nat), v16, undef, undef, undef, undef, undef, undef, undef, undef, undef, undef, undef, undef, undef, undef, undef, undef, undef, undef, undef, undef, undef, undef, undef, undef, undef, undef, undef, undef, undef, undef, undef, undef, undef, undef, undef, undef, undef, undef, undef, undef, undef, undef, undef, undef, undef, undef, undef, undef, undef, undef, undef, undef, undef, undef, undef, undef, undef, undef, undef, undef, undef, undef, undef, undef, undef, undef, undef, undef, undef, undef, undef, undef, undef, undef, undef, undef, undef, undef, undef, undef, undef, undef, undef, undef, undef, undef, undef], defers := [] } : Act) ∧ Hid (NewP w Y c r v3 v7 v8 v12 v16 W)) (by decide) (by decide) (by decide) (by kernel_rfl) ?_ ?_ 5 [3, 7, 8, 12, 16] rfl (List.Sublist.refl _) _ _ hHeld ?_
  ·intro r a W hr hS hI i hi
   obtain ⟨v3, v7, v8, v12, v16, ha, hN⟩ := hI
   dsimp only at ha
   subst ha
   have hm := hr.subset hi
   have lS := hS.out.size
   simp only [List.mem_cons, List.not_mem_nil, or_false] at hm
   rcases hm with rfl | rfl | rfl | rfl | rfl
   ·refine ⟨⟨some 12, _, _, _, _, _⟩, rfl, fun K hK => ?_⟩
    go_simp
    (go_at_call 45; (with_reducible refine (HCL.out _ hS.out).mono ?_); rintro e V ⟨⟨g, cap, rfl, o⟩, hb⟩)
    refine hK.out _ _ (qzL (xAa hS.out hb)) ⟨_, v7, v8, v12, v16, rfl, qzL ?_⟩
    have h := hN.out.then_ hb
    exact ⟨fun _ => ⟨g, cap, rfl, o⟩, fun e => h.a (xA7 e (by decide)), fun e => h.m (xA7 e (by decide)), fun e => h.k (xA7 e (by decide)), fun e => h.o (xA7 e (by decide))⟩
   ·refine ⟨⟨some 16, _, _, _, _, _⟩, rfl, fun K hK => ?_⟩
    go_simp
    refine xBi ?_
    intro V hV
    obtain ⟨g, e, o, hb, l⟩ := xAo (B := Y.heap.size) (enc := eB) (y := false) (n := c.ac.length) xBj (by decide) (by omega) lS hV (by simp)
    refine hK.out _ _ (qzL (xAa hS.out hb)) ⟨v3, _, v8, v12, v16, rfl, qzL ?_⟩
    have h := hN.out.then_ hb
    rw [← e] at o
    exact ⟨fun e => h.h (xA7 e (by decide)), fun _ => ⟨_, rfl, o⟩, fun e => h.m (xA7 e (by decide)), fun e => h.k (xA7 e (by decide)), fun e => h.o (xA7 e (by decide))⟩
   ·refine ⟨⟨some 17, _, _, _, _, _⟩, rfl, fun K hK => ?_⟩
    go_simp
    have hb := wa1 W (.map #[] 0)
    refine hK.out _ _ (qzL (xAa hS.out hb)) ⟨v3, v7, _, v12, v16, rfl, qzL ?_⟩
    have h := hN.out.then_ hb
    exact ⟨fun e => h.h (xA7 e (by decide)), fun e => h.a (xA7 e (by decide)), fun _ => ⟨_, rfl, MapF.made W, lS⟩, fun e => h.k (xA7 e (by decide)), fun e => h.o (xA7 e (by decide))⟩
   ·refine ⟨⟨some 21, _, _, _, _, _⟩, rfl, fun K hK => ?_⟩
    go_simp
    refine xBi ?_
    intro V hV
    obtain ⟨g, e, o, hb, l⟩ := xAo (B := Y.heap.size) (enc := eC) (y := ⟨0, false⟩) (n := c.cl.length) eC_len (by decide) (by omega) lS hV (by simp)
    refine hK.out _ _ (qzL (xAa hS.out hb)) ⟨v3, v7, v8, _, v16, rfl, qzL ?_⟩
    have h := hN.out.then_ hb
    rw [← e] at o
    exact ⟨fun e => h.h (xA7 e (by decide)), fun e => h.a (xA7 e (by decide)), fun e => h.m (xA7 e (by decide)), fun _ => ⟨_, rfl, o⟩, fun e => h.o (xA7 e (by decide))⟩
   ·refine ⟨⟨some 25, _, _, _, _, _⟩, rfl, fun K hK => ?_⟩
    go_simp
    refine xBi ?_
    intro V hV
    obtain ⟨g, e, o, hb, l⟩ := xAo (B := Y.heap.size) (enc := eO) (y := ⟨0, 0, 0, 0, 0⟩) (n := c.cl.length) xDw (by decide) (by omega) lS hV (by simp)
    refine hK.out _ _ (qzL (xAa hS.out hb)) ⟨v3, v7, v8, v12, _, rfl, qzL ?_⟩
    have h := hN.out.then_ hb
    rw [← e] at o
    exact ⟨fun e => h.h (xA7 e (by decide)), fun e => h.a (xA7 e (by decide)), fun e => h.m (xA7 e (by decide)), fun e => h.k (xA7 e (by decide)), fun _ => ⟨_, rfl, o⟩⟩
  ·intro a W hS hI
   obtain ⟨v3, v7, v8, v12, v16, ha, hN⟩ := hI
   dsimp only at ha
   subst ha
   have lS := hS.out.size
   obtain ⟨g3, c3, rfl, o3⟩ := hN.out.h (by simp)
   obtain ⟨g7, rfl, o7⟩ := hN.out.a (by simp)
   obtain ⟨g8, rfl, o8, l8⟩ := hN.out.m (by simp)
   obtain ⟨g12, rfl, o12⟩ := hN.out.k (by simp)
   obtain ⟨g16, rfl, o16⟩ := hN.out.o (by simp)
   clear o3 o7 o8 o12 o16
   refine xAd (i := 17) (oi := ⟨some 26, _, _, _, _, _⟩) (v := .agg #[.int .i64 c.par, .slice m.h c.hold.length m.hc, .slice m.u c.un.length m.uc, .slice m.a c.ac.length m.ac, .slice m.k c.cl.length m.kc, .int .i64 c.days, .slice m.o c.off.length m.oc, .int .i64 0, .int .i64 0, .slice (some ⟨g3, 0, none⟩) c.hold.length c3, .slice (some ⟨g7, 0, none⟩) c.ac.length c.ac.length, .nilFunc, .map (some g8), .slice (some ⟨g12, 0, none⟩) c.cl.length c.cl.length, .slice (some ⟨g16, 0, none⟩) c.cl.length c.cl.length]) hdir hsel hpan rfl (by kernel_rfl) (by kernel_rfl) (by kernel_rfl) (Or.inl ⟨by rfl, fun w hw => by go_simp⟩) (by assumption) ?_
   try simp only [Act.put, qzG, qzI, qzH]
   refine xA6 (by kernel_rfl) (by kernel_rfl) ?_
   simp only [xAn, qzA, qzB, qzC, qzD, qzE, qzF]
   clear hdir hsel hpan
   have hbx := wa1 W (.cells #[.int .i64 c.par, .slice m.h c.hold.length m.hc, .slice m.u c.un.length m.uc, .slice m.a c.ac.length m.ac, .slice m.k c.cl.length m.kc, .int .i64 c.days, .slice m.o c.off.length m.oc, .int .i64 0, .int .i64 0, .slice (some ⟨g3, 0, none⟩) c.hold.length c3, .slice (some ⟨g7, 0, none⟩) c.ac.length c.ac.length, .nilFunc, .map (some g8), .slice (some ⟨g12, 0, none⟩) c.cl.length c.cl.length, .slice (some ⟨g16, 0, none⟩) c.cl.length c.cl.length] 86)
   have HN2 := qzL (hN.out.then_ hbx)
   go_wp2
   go_meet
   case rel => exact ⟨_, _, _, _, _, _, rfl, HN2, qzL (xAa hS.out hbx), lS, Blk.new _ _ _⟩
  ·exact ⟨undef, undef, undef, undef, undef, rfl, ⟨fun e => absurd (by decide) e, fun e => absurd (by decide) e, fun e => absurd (by decide) e, fun e => absurd (by decide) e, fun e => absurd (by decide) e⟩⟩
 case rest =>
 obtain ⟨b, v3, v7, v8, v12, v16, rfl, hN, hB, hb, gb⟩ := hcut
 obtain ⟨g3, c3, rfl, o3⟩ := hN.out.h (by simp)
 obtain ⟨g7, rfl, o7⟩ := hN.out.a (by simp)
 obtain ⟨g8, rfl, o8, l8⟩ := hN.out.m (by simp)
 obtain ⟨g12, rfl, o12⟩ := hN.out.k (by simp)
 obtain ⟨g16, rfl, o16⟩ := hN.out.o (by simp)
 have O3 := qzL o3
 have O7 := qzL o7
 have O8 := qzL o8
 have O12 := qzL o12
 have O16 := qzL o16
 have GY := qzL gaY
 have hba : Hid (w.heap.size ≤ ba ∧ ba < Y.heap.size) := ⟨lba.out, gaY.lt⟩
 have f11 : wc.frozen? ⟨b, 11, none⟩ = false := gb.out.frozen 11
 have c11 : wc.cell? ⟨b, 11, none⟩ = some .nilFunc := gb.out.cell 11
 have hsf := fun W => run_store Tryz.prog W ⟨b, 11, none⟩ (.func (.func 81) #[] #[.pointer (some ⟨ba, 0, none⟩)]) .plain rfl
 clear o3 o7 o8 o12 o16 hm2 hm3 hm4 hmm hi2 hi3 hi4 hz20 hz21 hz22 hz30 hz31 hz32 hz40 hz41 hz42 hh0 HCL hN gaY
 go_upto_region 3 with (fail)
 refine xAi ?_
 intro X hX
 have hR : Hid (Rdm w X b c m (c.rE 0) (fun _ => []) ⟨ba, g3, c3, g7, c.ac.length, g12, c.cl.length, g16, c.cl.length, g8, fun _ => .slice none 0 0, 0⟩) := by
  have u : Upd wc X b := by rw [hX]; exact (Upd.refl _ _).setCell 11 _
  have n3 : ∀ k, (Value.slice (some ⟨g3, 0, none⟩) c.hold.length c3).ownBlock = some k → k ≠ b := fun k hk => (Own.blk_ne_row gb.out O3.out (by decide) hk).symm
  have n7 : ∀ k, (Value.slice (some ⟨g7, 0, none⟩) c.ac.length c.ac.length).ownBlock = some k → k ≠ b := fun k hk => (Own.blk_ne_row gb.out O7.out (by decide) hk).symm
  have n12 : ∀ k, (Value.slice (some ⟨g12, 0, none⟩) c.cl.length c.cl.length).ownBlock = some k → k ≠ b := fun k hk => (Own.blk_ne_row gb.out O12.out (by decide) hk).symm
  have n16 : ∀ k, (Value.slice (some ⟨g16, 0, none⟩) c.cl.length c.cl.length).ownBlock = some k → k ≠ b := fun k hk => (Own.blk_ne_row gb.out O16.out (by decide) hk).symm
  have n8 : g8 ≠ b := O8.out.ne_blk gb.out
  have hlb := hb.out
  have ha := hba.out
  refine ⟨?_, (GY.out.then_ hB.out).upd u (by omega), (O3.out.upd u n3).more lwY, ?_, ?_, ?_, O8.out.keep (u.f _ n8), fun _ => Own.nil _ _ _ _ _, fun k k' x _ h => (by cases h), fun ⟨k, h⟩ => (by cases h), (xAa hYB.out hB.out).trans (u.b _ (by omega)), ⟨by omega, ha.1, by show w.heap.size ≤ g8; omega⟩, by show b ≠ ba; omega, HC.out, by simp [mixP], rfl, by simp⟩
  ·rw [hX]
   have h2 := gb.out.set_ 11 (.func (.func 81) #[] #[.pointer (some ⟨ba, 0, none⟩)])
   unfold rdA
   rw [show (c.rE 0).hap.length = c.ac.length by simp, show (c.rE 0).oc.length = c.cl.length by simp [mixP]]
   exact h2
  ·rw [show (c.rE 0).hap.length = c.ac.length by simp]; exact (O7.out.upd u n7).more lwY
  ·rw [show (c.rE 0).oc.length = c.cl.length by simp [mixP], show (c.rE 0).oc.map (·.2) = List.replicate c.cl.length ⟨0, false⟩ by simp [xEi, Zoc]]; exact (O12.out.upd u n12).more lwY
  ·rw [show (c.rE 0).oc.length = c.cl.length by simp [mixP], show (c.rE 0).oc.map (·.1) = List.replicate c.cl.length ⟨0, 0, 0, 0, 0⟩ by simp [xEi, Zoc]]; exact (O16.out.upd u n16).more lwY
 clear hX hsf f11 c11 O3 O7 O8 O12 O16 gb GY hba hb hB
 obtain ⟨q, hq⟩ : ∃ Q, (⟨ba, g3, c3, g7, c.ac.length, g12, c.cl.length, g16, c.cl.length, g8, fun _ => .slice none 0 0, 0⟩ : Rq) = Q := ⟨_, rfl⟩
 have hqf : Hid (q.wf (fun _ => .slice none 0 0) 0 = q ∧ q.bc = ba) := by unfold Hid; rw [← hq]; exact ⟨rfl, rfl⟩
 rw [hq] at hR
 clear hq
 obtain ⟨N, hNX⟩ : ∃ N, X.heap.size = N := ⟨_, rfl⟩
 have hqb := hR.out.qb
 rw [hNX] at hqb
 have HQ : Hid (b < N ∧ q.bc < N ∧ q.h < N ∧ q.a < N ∧ q.k < N ∧ q.o < N ∧ q.mp < N) := ⟨hqb.b, hqb.bc, hqb.h, hqb.a, hqb.k, hqb.o, hqb.mp⟩
 have hNw : w.heap.size ≤ N := by rw [← hNX]; exact hR.out.hb.size
 go_upto_region 4 with (fail)
 refine xAi ?_
 intro Z hZ
 have h0 : Hid (BL w Z b c m q N 0 0 0 (fun _ => False) (.slice (some ⟨X.heap.size, 0, none⟩) 1 1) [-1] (fun _ => []) (fun _ => .slice none 0 0) 0) := by
  have hbZ : Below X.heap.size X Z := by rw [hZ]; exact wa1 _ _
  have hr0 : ∀ x, ¬ (q.wf (fun _ => .slice none 0 0) 0).row x := fun x ⟨k, hk⟩ => by cases hk
  refine ⟨by rw [hqf.out.1]; exact hR.out.then_ hbZ, ?_, fun s x hx => (by cases hx), fun j k _ _ s _ h => ?_, fun x hx => ?_, by simp, by simp, fun j k _ _ h => absurd h (by omega), Nat.le_refl _, fun s => by simp, fun x hx => absurd hx (hr0 x), fun x hx => absurd hx (hr0 x)⟩
  ·exact ⟨rfl, .inr ⟨X.heap.size, 1, (eI (-1)).toArray, rfl, by omega, by rw [hZ]; exact Blk.new _ _ _, Nat.le_refl _, by unfold maxLen; omega, rfl, rfl⟩⟩
  ·rcases h with h | ⟨_, h⟩
   ·omega
   ·exact h.elim
  ·rw [List.mem_singleton.1 hx]; omega
 rw [hNX] at h0
 have lZ : N ≤ Z.heap.size := by rw [hZ]; simp; omega
 clear hZ hR hqb hYB
 rw [← hqf.out.2]
 have k4 : Z.cell? ⟨q.bc, 4, none⟩ = some (.slice m.k c.cl.length m.kc) := h0.out.rd.gc.cell 4
 go_upto_region 5 with (fail)
 clear k4
 go_loopw [4, 36] (fun v y WR => ∃ (i cnt : Nat) (K : List Int) (wl : Int → List Int) (f : Int → Value) (n : Nat), y = .int .i64 i ∧ i ≤ c.cl.length ∧ cnt ≤ 9 * i ∧ Hid (BL w WR b c m q N i i cnt (fun _ => False) v K wl f n)) (fun _ y _ => 3000 - (intOf y).toNat)
 case atStart => exact ⟨0, 0, _, _, _, _, rfl, by omega, by omega, h0⟩
 case round =>
  clear h0 lZ
  obtain ⟨i, cnt, K, wl, f, n, rfl, hi, hcnt, hL⟩ := hrel
  have lwr : N ≤ wr.heap.size := by have := (hL.out.o).2; have h := hL.out.rd.hb.size; have := HQ.out.1; rcases hL.out.o.2 with ⟨_, h0⟩ | ⟨g, cap, cur, _, hg, hh, _⟩; exact absurd hL.out.k1 (by rw [List.eq_nil_of_length_eq_zero h0]; simp); have := (Array.getElem?_eq_some_iff.1 hh).1; omega
  by_cases hlt : i < c.cl.length
  case neg =>
   obtain rfl : i = c.cl.length := by omega
   have tl : decide (((c.cl.length : Nat) : Int) < ((c.cl.length : Nat) : Int)) = false := qzN (by omega)
   have hgd := xCe HOK.out
   have hfin := qzL (hL.out.fin (xCv HOK.out).1 hgd)
   have hrd := hL.out.rd
   rw [rE_all] at hrd
   have hbi := xE7 hgd
   have hq0 : q.f = (fun _ => .slice none 0 0) ∧ q.n = 0 := by have h := hqf.out.1; exact ⟨by rw [← h], by rw [← h]⟩
   have HST := qzL (xFw w b c m c.base wl (q.wf f n) u4 K N 1000 wr hrd hL.out.o ⟨HQ.out.1, HQ.out.2.1, HQ.out.2.2.1, HQ.out.2.2.2.1, HQ.out.2.2.2.2.1, HQ.out.2.2.2.2.2.1, HQ.out.2.2.2.2.2.2⟩ hL.out.dk hNw lwr HOK.out (xCv HOK.out).1 (xCv HOK.out).2.1 hbi (base_f c) hfin.out.1 hfin.out.2 hL.out.kb (by have := hL.out.kl; have := xDq (c.base.marks c); rw [xBw hbi.len] at this; omega) (by omega) (by have := hL.out.nb; show n ≤ _; omega) (fun s => by have := hL.out.wb s; omega))
   have hn0 : n ≤ 4000 := by have := hL.out.nb; omega
   clear hrd
   go_wp2_with (go_at_call 84; (with_reducible refine HST.out.mono ?_); rintro e w2 ⟨rfl, hres⟩)
   go_ret
   obtain ⟨wl2, f2, n2, h1, h2, h3, h4⟩ := hres.x
   have h3 : n2 ≤ n + 1000 := h3
   exact ⟨b, wl2, (q.wf f n).wf f2 n2, rfl, h1, ⟨(xBn hbi hgd.k hgd.n).2, hres.f, h2, xCp hgd hbi, (base_g c).startR, h4⟩, by show n2 ≤ _; omega, h1.hb⟩
  have tl : decide ((i : Int) < (c.cl.length : Int)) = true := qzO (by omega)
  obtain ⟨k, hk⟩ : ∃ k, c.cl[i]? = some k := ⟨_, qzJ hlt⟩
  have hz : c.rz.oc[i]? = some Zoc := by simp [hlt]
  have hlz : c.rz.oc.length = c.cl.length := by simp
  have hx : (c.rE i).oc[i]? = some Zoc := (xFi hlz hlt).trans hz
  have hsu : Hid (c.rE (i + 1) = (c.rE i).wo ((c.rE i).oc.set i (out0 k))) := by
   unfold Hid
   show c.rz.wo _ = c.rz.wo _
   rw [xC0 hlz hk hz]
  have hil : i < (c.rE i).oc.length := (qzM hx).1
  have HX := qzL hx
  have no := hL.out.rd.no
  obtain ⟨kx, hkx, hkk⟩ := xC3 hL.out.rd.cn.e hk
  subst hkk
  have hko := (hL.out.rd.cn.t kx (qzK hkx)).then_ hL.out.rd.hb
  have ns := (xCv HOK.out).2.2 kx.k (qzK hk)
  have HT := qzL (hL.out.rd.cn.t kx (qzK hkx)).s
  obtain ⟨b0, o0, eA0, hb0, hc0⟩ := xAv (hL.out.rd.cn.k.below hL.out.rd.hb) hkx
  have hix0 := fun W => xAp (t := 25) (size := 16) (cap := m.kc) eA0 hlt (by kernel_rfl) (fun W => by kernel_rfl) W
  have hixo := fun W => xA4 (t := 52) (size := 5) (g := q.o) (cap := q.oc) hil (by kernel_rfl) (fun W => by kernel_rfl) W
  have hrg : wr.rangeAt b0 (o0 + i * 16) (kL kx) := fun j v hv => hc0 j v hv
  have HK := qzL hk
  clear hc0 eA0 hkx hk hx hko
  go_upto_region 7 with ((refine xBt 95 el16 _ _ _ _ _ rfl rfl rfl rfl rfl rfl rfl rfl rfl rfl rfl rfl b0 _ rfl (kL kx) rfl hrg (by simp [Value.oneCell']) (by decide) (by decide) (by decide) (by simp) (by simp) (.int .i64 (i : Nat)) rfl ?_; simp only [Act.put, qzG, qzH, qzI]))
  refine xAi ?_
  intro V hV
  have gx : Blk V wr.heap.size 95 (kL kx).toArray := by rw [hV]; exact Blk.new _ _ _
  have HVB : Hid (Below wr.heap.size wr V) := by rw [hV]; exact wa1 _ _
  obtain ⟨bx, ex⟩ : ∃ b, wr.heap.size = b := ⟨_, rfl⟩
  have lbx : Hid (N ≤ bx) := by unfold Hid; omega
  rw [ex] at gx ⊢
  have GX := qzL gx
  have hLV := qzL (hL.out.then_ HVB.out)
  clear hV ex hrg hix0 gx hb0
  have k14 : V.cell? ⟨b, 14, none⟩ = some (.slice (some ⟨q.o, 0, none⟩) (c.rE i).oc.length q.oc) := hLV.out.rd.g.cell 14
  have hth := hLV.out.rd.there HX.out
  go_upto_region 8 with (refine xBz rfl 57 _ _ rfl rfl q.o (i * 5) [.int .i64 0, .int .i64 (-1), .int .i64 (-1), .int .i64 0, .int .i64 (-1)] rfl rfl (by exact hth) (by kernel_rfl) (by simp [Value.oneCell']) ?_)
  refine xAi ?_
  intro U hU
  have HRU : Hid (Rdm w U b c m ((c.rE i).wo ((c.rE i).oc.set i (⟨0, -1, -1, 0, -1⟩, ⟨0, false⟩))) wl (q.wf f n)) := by rw [hU]; exact hLV.out.rd.setWhole ⟨0, -1, -1, 0, -1⟩ HX.out
  have HKU : Hid (Kept V U (fun x => x = q.o)) := by rw [hU]; exact Kept.of_upd (Upd.setCells _ _ _ (Upd.refl _ _)) rfl
  have GU : Hid (Blk U bx 95 (kL kx).toArray) := GX.out.kept HKU.out (fun e => by have := HQ.out.2.2.2.2.2.1; have := lbx.out; omega)
  clear hU hth k14 GX
  have x15 : U.cell? ⟨bx, 15, none⟩ = some (.bool kx.k.waived) := GU.out.cell 15
  obtain ⟨wv, hwv⟩ : ∃ z, kx.k.waived = z := ⟨_, rfl⟩
  rw [hwv] at x15
  have HWV := qzL hwv
  clear hwv
  cases wv with
  | true =>
   go_upto_region 9 with (fail)
   clear x15
   have k14 : U.cell? ⟨b, 14, none⟩ = some (.slice (some ⟨q.o, 0, none⟩) (c.rE i).oc.length q.oc) := by have := HRU.out.g.cell 14; simpa using this
   have rg0 := cR k14
   refine xBm [9] [0, 1, 2, 3, 4, 5, 6, 7, 8] [10, 11, 12, 13, 14, 15] (by kernel_rfl) (by kernel_rfl) pO ?_
   simp only [xAn, qzA, qzB, qzC, qzD, qzE, qzF]
   repeat (go_big_quiet_step (skip))
   refine wpQuiet_nil ?_
   intro X hw2
   have hbX := xAj hw2
   clear hw2 rg0
   have HRX := qzL (HRU.out.then_ hbX)
   have HKX : Hid (Kept V X (fun y => y = q.o)) := HKU.out.trans (Kept.of_below hbX)
   clear k14 hbX
   have hxx : ((c.rE i).wo ((c.rE i).oc.set i (⟨0, -1, -1, 0, -1⟩, ⟨0, false⟩))).oc[i]? = some (⟨0, -1, -1, 0, -1⟩, ⟨0, false⟩) := List.getElem?_set_self hil
   obtain ⟨⟨y0, g0⟩, _, ⟨y2, g2⟩, _⟩ := HRX.out.out hxx
   have HXX := qzL hxx
   clear hxx
   go_upto_region 10 with (fail)
   refine xAi ?_
   intro Y hY
   have HRY : Hid (Rdm w Y b c m (c.rE (i + 1)) wl (q.wf f n)) := by
    rw [hY, hsu.out]
    have h1 := HRX.out.setO (j := 0) (y := ⟨5, -1, -1, 0, -1⟩) (v := .int .i64 5) HXX.out (by omega) rfl
    have h2 := h1.setO (i := i) (j := 2) (x := (⟨5, -1, -1, 0, -1⟩, ⟨0, false⟩)) (y := ⟨5, -1, 0, 0, -1⟩) (v := .int .i64 0) (List.getElem?_set_self (by rw [List.length_set]; exact hil)) (by omega) rfl
    have e9 : ∀ (a d : Out × Cnt), ((c.rE i).oc.set i a).set i d = (c.rE i).oc.set i d := fun a d => List.set_set _
    have eo : out0 kx.k = (⟨5, -1, 0, 0, -1⟩, ⟨0, false⟩) := by unfold out0; rw [HWV.out]; rfl
    rw [eo]
    unfold Rd.wo at h2 ⊢
    simp only [e9] at h2
    refine qzL ?_
    simpa using h2
   have HKY : Hid (Kept V Y (fun y => y = q.o)) := by rw [hY]; exact (HKX.out.setCell rfl).setCell rfl
   clear hY y0 y2 g0 g2 HRX HKX HXX HRU HKU GU
   have hLY := qzL (hLV.out.lay HRY.out HKY.out HQ.out.2.2.2.2.2.1)
   have hKl : K.length ≤ i + 1 := hL.out.kl
   have lY : N ≤ Y.heap.size := by have h1 := HKY.out.size; have h2 := HVB.out.size; omega
   go_wp2_with (at_builtin; refine xDz rfl (.tmp 64) (.tmp 66) rfl i5 hi5 hz50 hz51 hz52 N _ K rfl (hLY.out.o.alloc _) (by omega) _ 1 (i : Int) rfl (Blk.new _ _ _) (by simp; omega) ?_; intro v' w2 hO2 hg2 hl2)
   have hNx := qzL ((hLY.out.known hNw HQ.out hlt hKl hO2 hg2 hl2).next HK.out (fun h => by rw [HWV.out] at h; cases h) (fun _ => by simp))
   go_roundw
   case rel => exact ⟨i + 1, cnt, _, wl, f, n, by simp, by omega, by omega, hNx⟩
   case measure => simp [intOf]; omega
  | false =>
  have hLU : Hid (BL w U b c m q N (i + 1) i cnt (fun _ => False) u4 K wl f n) := by
   refine hLV.out.lay ?_ HKU.out HQ.out.2.2.2.2.2.1
   rw [hsu.out]
   have eo : out0 kx.k = (⟨0, -1, -1, 0, -1⟩, ⟨0, false⟩) := by unfold out0; rw [HWV.out]; rfl
   rw [eo]
   exact HRU.out
  clear HRU HKU hLV
  have lU : N ≤ U.heap.size := by have h2 := HVB.out.size; have h3 := GU.out.lt; have := lbx.out; omega
  have x4 : U.cell? ⟨bx, 4, none⟩ = some (.slice kx.A kx.k.start.length kx.cap) := GU.out.cell 4
  have LEN0 : ∀ (x : Int × Int), x ∈ kx.k.start → x.1 < (c.cl.length : Int) ∧ 0 ≤ x.1 := fun x hx => ⟨((xCv HOK.out).1 kx.k (qzK HK.out) x hx).2, ((xCv HOK.out).1 kx.k (qzK HK.out) x hx).1⟩
  go_upto_if 71 with (fail)
  go_cut [] from 37 to 107 (fun W => ∃ (cnt' : Nat) (D0 : Int → Prop) (wl' : Int → List Int) (f' : Int → Value) (n' : Nat), cnt' ≤ cnt + 1 ∧ Hid (BL w W b c m q N (i + 1) i cnt' D0 u4 K wl' f' n') ∧ Hid (kx.k.start = [] → D0 (-1)) ∧ Hid (Blk W bx 95 (kL kx).toArray) ∧ N ≤ W.heap.size)
  case first =>
   cases h0 : (kx.k.start.length == 0) with
   | false =>
    have hne : Hid (kx.k.start = [] → False) := fun e => by rw [e] at h0; simp at h0
    have t71 : (((kx.k.start.length : Nat) : Int) == 0) = false := by simpa using h0
    clear x4
    go_wp2
    go_meet
    case rel => exact ⟨cnt, _, wl, f, n, by omega, hLU, (fun e => (hne.out e).elim), GU, lU⟩
   | true =>
    have hst : Hid (kx.k.start = []) := List.eq_nil_of_length_eq_zero (by simpa using h0)
    have t71 : (((kx.k.start.length : Nat) : Int) == 0) = true := by simpa using h0
    clear x4 h0
    go_upto_region 12 with (fail)
    have hwS := hLU.out.wb (-1)
    obtain ⟨A2, c2, e2, _, _, _, _, _, _⟩ := (hLU.out.rd.ol (-1)).segz xAz
    have e2' : f (-1) = .slice A2 (wl (-1)).length c2 := e2
    have hOS := hLU.out.rd.ol (-1)
    rw [show (q.wf f n).f (-1) = .slice A2 (wl (-1)).length c2 from e2'] at hOS
    have HE2 := qzL e2'
    have HOS := qzL hOS
    have hrr : ∀ x, (Value.slice A2 (wl (-1)).length c2).ownBlock = some x → N ≤ x := fun x hx => hLU.out.rr x ⟨-1, by show (f (-1)).ownBlock = _; rw [HE2.out]; exact hx⟩
    have HRR := qzL hrr
    have hlk : ∀ W, Kept U W (fun x => (Value.slice A2 (wl (-1)).length c2).ownBlock = some x) → (Instr.lookup 83 (.map (some q.mp)) (.int .i64 (-1)) false).run Tryz.prog W = .ok (.slice A2 (wl (-1)).length c2) W := fun W hw => by
     have h1 : MapF W q.mp n f := hLU.out.rd.mp.keep (hw.k _ hLU.out.rd.mp.lt (fun e => by have h1 : N ≤ q.mp := HRR.out _ e; have := HQ.out.2.2.2.2.2.2; omega))
     rw [← HE2.out]
     exact h1.look (by first | (constructor <;> decide) | (exact HKI.out))
    have hg12 : ∀ W, Kept U W (fun x => (Value.slice A2 (wl (-1)).length c2).ownBlock = some x) → W.cell? ⟨b, 12, none⟩ = some (.map (some q.mp)) := fun W hw => (hLU.out.rd.g.kept hw (fun e => by have h1 : N ≤ b := HRR.out _ e; have := HQ.out.1; omega)).cell 12
    clear e2 e2' hOS hrr
    refine xBf (fun w' => Hid (Kept U w' (fun x => (Value.slice A2 (wl (-1)).length c2).ownBlock = some x))) [0, 1, 2, 3, 4, 5, 6, 7, 8, 9, 10, 11] [12] (by kernel_rfl) (by kernel_rfl) pO (qzL (Kept.of_below (Below.drew (Below.refl _ _)))) (fun hdir hsel hpan hHeld => ?_)
    refine xAd (i := 0) (oi := ⟨some 72, _, _, _, _, _⟩) (v := .pointer (some ⟨b, 0, none⟩)) hdir hsel hpan rfl (by kernel_rfl) (by kernel_rfl) (by kernel_rfl) (Or.inl ⟨by rfl, fun w hw => by go_simp⟩) (by assumption) ?_
    try simp only [Act.put, qzG, qzI, qzH]
    refine xAd (i := 1) (oi := ⟨some 73, _, _, _, _, _⟩) (v := .pointer (some ⟨b, 0, none⟩)) hdir hsel hpan rfl (by kernel_rfl) (by kernel_rfl) (by kernel_rfl) (Or.inl ⟨by rfl, fun w hw => by go_simp⟩) (by assumption) ?_
    try simp only [Act.put, qzG, qzI, qzH]
    refine xAd (i := 2) (oi := ⟨some 74, _, _, _, _, _⟩) (v := .pointer (some ⟨b, 12, none⟩)) hdir hsel hpan rfl (by kernel_rfl) (by kernel_rfl) (by kernel_rfl) (Or.inl ⟨by rfl, fun w hw => by go_simp⟩) (by assumption) ?_
    try simp only [Act.put, qzG, qzI, qzH]
    refine xAd (i := 3) (oi := ⟨some 75, _, _, _, _, _⟩) (v := .map (some q.mp)) hdir hsel hpan rfl (by kernel_rfl) (by kernel_rfl) (by kernel_rfl) (Or.inl ⟨by rfl, fun w hw => by have hc := hg12 w hw.out; go_simp⟩) (by assumption) ?_
    try simp only [Act.put, qzG, qzI, qzH]
    refine xAd (i := 4) (oi := ⟨some 76, _, _, _, _, _⟩) (v := .pointer (some ⟨b, 0, none⟩)) hdir hsel hpan rfl (by kernel_rfl) (by kernel_rfl) (by kernel_rfl) (Or.inl ⟨by rfl, fun w hw => by go_simp⟩) (by assumption) ?_
    try simp only [Act.put, qzG, qzI, qzH]
    refine xAd (i := 5) (oi := ⟨some 77, _, _, _, _, _⟩) (v := .pointer (some ⟨b, 0, none⟩)) hdir hsel hpan rfl (by kernel_rfl) (by kernel_rfl) (by kernel_rfl) (Or.inl ⟨by rfl, fun w hw => by go_simp⟩) (by assumption) ?_
    try simp only [Act.put, qzG, qzI, qzH]
    refine xAd (i := 6) (oi := ⟨some 78, _, _, _, _, _⟩) (v := .pointer (some ⟨b, 12, none⟩)) hdir hsel hpan rfl (by kernel_rfl) (by kernel_rfl) (by kernel_rfl) (Or.inl ⟨by rfl, fun w hw => by go_simp⟩) (by assumption) ?_
    try simp only [Act.put, qzG, qzI, qzH]
    refine xAd (i := 7) (oi := ⟨some 79, _, _, _, _, _⟩) (v := .map (some q.mp)) hdir hsel hpan rfl (by kernel_rfl) (by kernel_rfl) (by kernel_rfl) (Or.inl ⟨by rfl, fun w hw => by have hc := hg12 w hw.out; go_simp⟩) (by assumption) ?_
    try simp only [Act.put, qzG, qzI, qzH]
    refine xAd (i := 8) (oi := ⟨some 80, _, _, _, _, _⟩) (v := .slice A2 (wl (-1)).length c2) hdir hsel hpan rfl (by kernel_rfl) (by kernel_rfl) (by kernel_rfl) (Or.inl ⟨by rfl, fun w hw => by have hc := hlk w hw.out; go_simp⟩) (by assumption) ?_
    try simp only [Act.put, qzG, qzI, qzH]
    refine xAd (i := 9) (oi := ⟨some 81, _, _, _, _, _⟩) (v := .int .i64 (i : Nat)) hdir hsel hpan rfl (by kernel_rfl) (by kernel_rfl) (by kernel_rfl) (Or.inl ⟨by rfl, fun w hw => by go_simp⟩) (by assumption) ?_
    try simp only [Act.put, qzG, qzI, qzH]
    refine xAt (rs := [10]) (by kernel_rfl) (by simp) ?_
    refine AllHB.cons (by kernel_rfl) (o := ⟨some 82, _, _, _, _, _⟩) rfl (fun K' hK => ?_) AllHB.nil
    go_simp
    refine xBi ?_
    intro V1 hV1
    obtain ⟨b1, e1, gb1, hbb1⟩ := xHy (W := U.drew) (V := V1) (t := 3) (cs := #[.int .i64 (i : Nat)]) hV1
    have e1' : U.heap.size = b1 := e1
    rw [e1']
    refine hK.out _ _ (qzL (hHeld.out.trans (Kept.of_below hbb1))) (fun hHeld2 => ?_)
    clear hK K' hHeld
    have hHeld := hHeld2
    clear hHeld2
    try simp only [Act.put, qzG, qzI, qzH]
    refine xAt (rs := [11]) (by kernel_rfl) (by simp) ?_
    refine AllHB.cons (by kernel_rfl) (o := ⟨some 83, _, _, _, _, _⟩) rfl (fun K' hK => ?_) AllHB.nil
    refine (if_pos (by rfl)).mpr ?_
    have hOS1 : Own V1 w.heap.size 3 1 eI (.slice A2 (wl (-1)).length c2) (wl (-1)) := by rw [hV1]; exact (HOS.out.alloc (.cells #[.int .i64 (i : Nat)] 3))
    have lV1 : w.heap.size ≤ V1.heap.size := by have := hHeld.out.size; omega
    refine wp_appL (.tmp 80) (.tmp 82) rfl i5 hi5 hz50 hz51 hz52 w.heap.size _ (wl (-1)) rfl hOS1 (by omega) b1 1 (i : Int) rfl gb1 lV1 ?_
    intro v' W2 hO2 hg2 hl2
    refine hK.out _ _ (qzL (hHeld.out.trans (Kept.grown hg2))) (fun hHeld2 => ?_)
    clear hK K' hHeld
    have hHeld := hHeld2
    clear hHeld2
    try simp only [Act.put, qzG, qzI, qzH]
    refine xA6 (by kernel_rfl) (by kernel_rfl) ?_
    clear hdir hsel hpan
    simp only [xAn, qzA, qzB, qzC, qzD, qzE, qzF]
    have hMW : MapF W2 q.mp n f := hLU.out.rd.mp.keep (hHeld.out.k _ hLU.out.rd.mp.lt (fun e => by have h1 : N ≤ q.mp := HRR.out _ e; have := HQ.out.2.2.2.2.2.2; omega))
    have hn4 : n ≤ 4000 := by have := hLU.out.nb; omega
    refine xDx rfl (.tmp 75) _ (.tmp 83) rfl q.mp n f (-1) _ rfl rfl rfl hMW (by constructor <;> decide) (by unfold maxLen; omega) ?_
    intro W3 hM3 hU3
    have hV1' : V1 = U.drew.alloc (.cells #[.int .i64 (i : Nat)] 3) := hV1
    rw [hV1'] at hg2 hl2
    rw [← HE2.out] at hg2 hl2
    have hLP := qzL ((hLU.out.then_ (W2 := U.drew) (Below.drew (Below.refl _ _))).put HQ.out HK.out HWV.out (.inl ⟨hst.out, rfl⟩) hO2 hg2 hl2 hM3 hU3 lU)
    have GP : Hid (Blk W3 bx 95 (kL kx).toArray) := Blk.upd (Blk.grownT (Blk.alloc (w := U.drew) GU.out _) (v := f (-1)) (Own.alloc (w := U.drew) (hLU.out.rd.ol (-1)) _) (by decide) hg2) hU3 (hLU.out.rd.mp.ne_blk GU.out).symm
    have lP : N ≤ W3.heap.size := by have h1 := hg2.size; have h2 := hU3.s; have h3 : (U.drew.alloc (.cells #[.int .i64 (i : Nat)] 3)).heap.size = U.heap.size + 1 := (by simp); omega
    go_wp2
    go_meet
    case rel => exact ⟨cnt + 1, _, _, _, n + 1, by omega, hLP, qzL (fun _ => .inr rfl), GP, lP⟩
  case rest =>
  obtain ⟨cnt', D0, wl1, f1, n1, hc1, hL2, hD0, GB, lB⟩ := hcut
  have x4 : wc.cell? ⟨bx, 4, none⟩ = some (.slice kx.A kx.k.start.length kx.cap) := GB.out.cell 4
  go_upto_region 14 with (fail)
  clear x4 GU lU hLU
  go_loopw [87] (fun y WR => ∃ (j cnt2 : Nat) (wl2 : Int → List Int) (f2 : Int → Value) (n2 : Nat), y = .int .i64 j ∧ j ≤ kx.k.start.length ∧ cnt2 ≤ cnt' + j ∧ N ≤ WR.heap.size ∧ Hid (BL w WR b c m q N (i + 1) i cnt2 (fun x => D0 x ∨ ∃ p ∈ kx.k.start.take j, p.1 = x) u4 K wl2 f2 n2)) (fun y _ => 3000 - (intOf y).toNat)
  case atStart => exact ⟨0, cnt', wl1, f1, n1, rfl, by omega, by omega, lB, qzL (hL2.out.wd fun x hx => by rcases hx with hx | ⟨p, hp, _⟩; exact hx; cases hp)⟩
  case round =>
   clear hL2 GB lB
   obtain ⟨j, cnt2, wl2, f2, n2, rfl, hj, hc2, lR, hL3⟩ := hrel
   by_cases hjl : j < kx.k.start.length
   case neg =>
    have tj : decide ((j : Int) < (kx.k.start.length : Int)) = false := qzN (by omega)
    have hNx := qzL (hL3.out.next HK.out (fun _ s hs => by
     rcases hs with ⟨e1, e2⟩ | ⟨p, hp, e2⟩
     ·rw [e2]; exact .inl (hD0.out e1)
     ·exact .inr ⟨p, by rw [List.take_of_length_le (by omega)]; exact hp, e2⟩) (fun h => by rw [HWV.out] at h; cases h))
    go_wp2
    go_roundw
    case rel => exact ⟨i + 1, cnt2, K, wl2, f2, n2, by simp, by omega, by omega, hNx⟩
    case measure => simp [intOf]; omega
   have tj : decide ((j : Int) < (kx.k.start.length : Int)) = true := qzO (by omega)
   obtain ⟨v, hv⟩ : ∃ v, kx.k.start[j]? = some v := ⟨_, qzJ hjl⟩
   have hvb := LEN0 v (qzK hv)
   obtain ⟨b2, o2, eA2, hb2, hc2'⟩ := xAv (HT.out.below hL3.out.rd.hb) hv
   have hrg : wr.rangeAt b2 (o2 + j * 2) (sL v) := fun j v hv => hc2' j v hv
   have hix2 := fun W => xAp (t := 93) (size := 2) (cap := kx.cap) eA2 hjl (by kernel_rfl) (fun W => by kernel_rfl) W
   have HV := qzL hv
   clear hv hc2' eA2
   go_upto_region 16 with ((refine xAm 143 elS _ _ _ rfl rfl rfl rfl rfl rfl rfl rfl rfl b2 _ rfl (sL v) rfl hrg (by simp [Value.oneCell']) (by decide) (by simp) (by simp) ?_; simp only [Act.put, qzG, qzH, qzI]))
   refine xAi ?_
   intro U2 hU2
   have gbk : Blk U2 wr.heap.size 143 (sL v).toArray := by rw [hU2]; exact Blk.new _ _ _
   have hbU2 : Below wr.heap.size wr U2 := by rw [hU2]; exact wa1 _ _
   obtain ⟨bk, ebk⟩ : ∃ b, wr.heap.size = b := ⟨_, rfl⟩
   have lU2 : N ≤ U2.heap.size := by have := hbU2.size; omega
   rw [ebk] at gbk ⊢
   have HBK := qzL gbk
   have hL4 := qzL (hL3.out.then_ hbU2)
   have HKI : Hid (I64 v.1) := by unfold Hid; omega
   clear hU2 ebk hrg hix2 hb2 gbk hbU2
   have hwS := hL4.out.wb (v.1)
   obtain ⟨A2, c2, e2, _, _, _, _, _, _⟩ := (hL4.out.rd.ol (v.1)).segz xAz
   have e2' : f2 (v.1) = .slice A2 (wl2 (v.1)).length c2 := e2
   have hOS := hL4.out.rd.ol (v.1)
   rw [show (q.wf f2 n2).f (v.1) = .slice A2 (wl2 (v.1)).length c2 from e2'] at hOS
   have HE2 := qzL e2'
   have HOS := qzL hOS
   have hrr : ∀ x, (Value.slice A2 (wl2 (v.1)).length c2).ownBlock = some x → N ≤ x := fun x hx => hL4.out.rr x ⟨v.1, by show (f2 (v.1)).ownBlock = _; rw [HE2.out]; exact hx⟩
   have HRR := qzL hrr
   have hlk : ∀ W, Kept U2 W (fun x => (Value.slice A2 (wl2 (v.1)).length c2).ownBlock = some x) → (Instr.lookup 83 (.map (some q.mp)) (.int .i64 (v.1)) false).run Tryz.prog W = .ok (.slice A2 (wl2 (v.1)).length c2) W := fun W hw => by
    have h1 : MapF W q.mp n2 f2 := hL4.out.rd.mp.keep (hw.k _ hL4.out.rd.mp.lt (fun e => by have h1 : N ≤ q.mp := HRR.out _ e; have := HQ.out.2.2.2.2.2.2; omega))
    rw [← HE2.out]
    exact h1.look (by first | (constructor <;> decide) | (exact HKI.out))
   have hg12 : ∀ W, Kept U2 W (fun x => (Value.slice A2 (wl2 (v.1)).length c2).ownBlock = some x) → W.cell? ⟨b, 12, none⟩ = some (.map (some q.mp)) := fun W hw => (hL4.out.rd.g.kept hw (fun e => by have h1 : N ≤ b := HRR.out _ e; have := HQ.out.1; omega)).cell 12
   have hkc : ∀ W, Kept U2 W (fun x => (Value.slice A2 (wl2 (v.1)).length c2).ownBlock = some x) → W.cell? ⟨bk, 0, none⟩ = some (.int .i64 (v.1)) := fun W hw => (HBK.out.kept hw (fun e => Own.blk_ne_row HBK.out HOS.out (by decide) e rfl)).cell 0
   clear e2 e2' hOS hrr
   refine xBf (fun w' => Hid (Kept U2 w' (fun x => (Value.slice A2 (wl2 (v.1)).length c2).ownBlock = some x))) [0, 1, 2, 3, 4, 5, 6, 7, 8, 9, 10, 11, 12, 13, 14, 15] [16] (by kernel_rfl) (by kernel_rfl) pO (qzL (Kept.of_below (Below.drew (Below.refl _ _)))) (fun hdir hsel hpan hHeld => ?_)
   refine xAd (i := 0) (oi := ⟨some 91, _, _, _, _, _⟩) (v := .pointer (some ⟨b, 0, none⟩)) hdir hsel hpan rfl (by kernel_rfl) (by kernel_rfl) (by kernel_rfl) (Or.inl ⟨by rfl, fun w hw => by go_simp⟩) (by assumption) ?_
   try simp only [Act.put, qzG, qzI, qzH]
   refine xAd (i := 1) (oi := ⟨some 92, _, _, _, _, _⟩) (v := .pointer (some ⟨b, 0, none⟩)) hdir hsel hpan rfl (by kernel_rfl) (by kernel_rfl) (by kernel_rfl) (Or.inl ⟨by rfl, fun w hw => by go_simp⟩) (by assumption) ?_
   try simp only [Act.put, qzG, qzI, qzH]
   refine xAd (i := 2) (oi := ⟨some 93, _, _, _, _, _⟩) (v := .pointer (some ⟨b, 12, none⟩)) hdir hsel hpan rfl (by kernel_rfl) (by kernel_rfl) (by kernel_rfl) (Or.inl ⟨by rfl, fun w hw => by go_simp⟩) (by assumption) ?_
   try simp only [Act.put, qzG, qzI, qzH]
   refine xAd (i := 3) (oi := ⟨some 94, _, _, _, _, _⟩) (v := .map (some q.mp)) hdir hsel hpan rfl (by kernel_rfl) (by kernel_rfl) (by kernel_rfl) (Or.inl ⟨by rfl, fun w hw => by have hc := hg12 w hw.out; go_simp⟩) (by assumption) ?_
   try simp only [Act.put, qzG, qzI, qzH]
   refine xAd (i := 4) (oi := ⟨some 95, _, _, _, _, _⟩) (v := .pointer (some ⟨bk, 0, none⟩)) hdir hsel hpan rfl (by kernel_rfl) (by kernel_rfl) (by kernel_rfl) (Or.inl ⟨by rfl, fun w hw => by go_simp⟩) (by assumption) ?_
   try simp only [Act.put, qzG, qzI, qzH]
   refine xAd (i := 5) (oi := ⟨some 96, _, _, _, _, _⟩) (v := .int .i64 (v.1)) hdir hsel hpan rfl (by kernel_rfl) (by kernel_rfl) (by kernel_rfl) (Or.inl ⟨by rfl, fun w hw => by have hc := hkc w hw.out; go_simp⟩) (by assumption) ?_
   try simp only [Act.put, qzG, qzI, qzH]
   refine xAd (i := 6) (oi := ⟨some 97, _, _, _, _, _⟩) (v := .pointer (some ⟨b, 0, none⟩)) hdir hsel hpan rfl (by kernel_rfl) (by kernel_rfl) (by kernel_rfl) (Or.inl ⟨by rfl, fun w hw => by go_simp⟩) (by assumption) ?_
   try simp only [Act.put, qzG, qzI, qzH]
   refine xAd (i := 7) (oi := ⟨some 98, _, _, _, _, _⟩) (v := .pointer (some ⟨b, 0, none⟩)) hdir hsel hpan rfl (by kernel_rfl) (by kernel_rfl) (by kernel_rfl) (Or.inl ⟨by rfl, fun w hw => by go_simp⟩) (by assumption) ?_
   try simp only [Act.put, qzG, qzI, qzH]
   refine xAd (i := 8) (oi := ⟨some 99, _, _, _, _, _⟩) (v := .pointer (some ⟨b, 12, none⟩)) hdir hsel hpan rfl (by kernel_rfl) (by kernel_rfl) (by kernel_rfl) (Or.inl ⟨by rfl, fun w hw => by go_simp⟩) (by assumption) ?_
   try simp only [Act.put, qzG, qzI, qzH]
   refine xAd (i := 9) (oi := ⟨some 100, _, _, _, _, _⟩) (v := .map (some q.mp)) hdir hsel hpan rfl (by kernel_rfl) (by kernel_rfl) (by kernel_rfl) (Or.inl ⟨by rfl, fun w hw => by have hc := hg12 w hw.out; go_simp⟩) (by assumption) ?_
   try simp only [Act.put, qzG, qzI, qzH]
   refine xAd (i := 10) (oi := ⟨some 101, _, _, _, _, _⟩) (v := .pointer (some ⟨bk, 0, none⟩)) hdir hsel hpan rfl (by kernel_rfl) (by kernel_rfl) (by kernel_rfl) (Or.inl ⟨by rfl, fun w hw => by go_simp⟩) (by assumption) ?_
   try simp only [Act.put, qzG, qzI, qzH]
   refine xAd (i := 11) (oi := ⟨some 102, _, _, _, _, _⟩) (v := .int .i64 (v.1)) hdir hsel hpan rfl (by kernel_rfl) (by kernel_rfl) (by kernel_rfl) (Or.inl ⟨by rfl, fun w hw => by have hc := hkc w hw.out; go_simp⟩) (by assumption) ?_
   try simp only [Act.put, qzG, qzI, qzH]
   refine xAd (i := 12) (oi := ⟨some 103, _, _, _, _, _⟩) (v := .slice A2 (wl2 (v.1)).length c2) hdir hsel hpan rfl (by kernel_rfl) (by kernel_rfl) (by kernel_rfl) (Or.inl ⟨by rfl, fun w hw => by have hc := hlk w hw.out; go_simp⟩) (by assumption) ?_
   try simp only [Act.put, qzG, qzI, qzH]
   refine xAd (i := 13) (oi := ⟨some 104, _, _, _, _, _⟩) (v := .int .i64 (i : Nat)) hdir hsel hpan rfl (by kernel_rfl) (by kernel_rfl) (by kernel_rfl) (Or.inl ⟨by rfl, fun w hw => by go_simp⟩) (by assumption) ?_
   try simp only [Act.put, qzG, qzI, qzH]
   refine xAt (rs := [14]) (by kernel_rfl) (by simp) ?_
   refine AllHB.cons (by kernel_rfl) (o := ⟨some 105, _, _, _, _, _⟩) rfl (fun K' hK => ?_) AllHB.nil
   go_simp
   refine xBi ?_
   intro V1 hV1
   obtain ⟨b1, e1, gb1, hbb1⟩ := xHy (W := U2.drew) (V := V1) (t := 3) (cs := #[.int .i64 (i : Nat)]) hV1
   have e1' : U2.heap.size = b1 := e1
   rw [e1']
   refine hK.out _ _ (qzL (hHeld.out.trans (Kept.of_below hbb1))) (fun hHeld2 => ?_)
   clear hK K' hHeld
   have hHeld := hHeld2
   clear hHeld2
   try simp only [Act.put, qzG, qzI, qzH]
   refine xAt (rs := [15]) (by kernel_rfl) (by simp) ?_
   refine AllHB.cons (by kernel_rfl) (o := ⟨some 106, _, _, _, _, _⟩) rfl (fun K' hK => ?_) AllHB.nil
   refine (if_pos (by rfl)).mpr ?_
   have hOS1 : Own V1 w.heap.size 3 1 eI (.slice A2 (wl2 (v.1)).length c2) (wl2 (v.1)) := by rw [hV1]; exact (HOS.out.alloc (.cells #[.int .i64 (i : Nat)] 3))
   have lV1 : w.heap.size ≤ V1.heap.size := by have := hHeld.out.size; omega
   refine wp_appL (.tmp 103) (.tmp 105) rfl i5 hi5 hz50 hz51 hz52 w.heap.size _ (wl2 (v.1)) rfl hOS1 (by omega) b1 1 (i : Int) rfl gb1 lV1 ?_
   intro v' W2 hO2 hg2 hl2
   refine hK.out _ _ (qzL (hHeld.out.trans (Kept.grown hg2))) (fun hHeld2 => ?_)
   clear hK K' hHeld
   have hHeld := hHeld2
   clear hHeld2
   try simp only [Act.put, qzG, qzI, qzH]
   refine xA6 (by kernel_rfl) (by kernel_rfl) ?_
   clear hdir hsel hpan
   simp only [xAn, qzA, qzB, qzC, qzD, qzE, qzF]
   have hMW : MapF W2 q.mp n2 f2 := hL4.out.rd.mp.keep (hHeld.out.k _ hL4.out.rd.mp.lt (fun e => by have h1 : N ≤ q.mp := HRR.out _ e; have := HQ.out.2.2.2.2.2.2; omega))
   have hn4 : n2 ≤ 5000 := by have := hL4.out.nb; omega
   refine xDx rfl (.tmp 94) _ (.tmp 106) rfl q.mp n2 f2 v.1 _ rfl rfl rfl hMW HKI.out (by unfold maxLen; omega) ?_
   intro W3 hM3 hU3
   have hV1' : V1 = U2.drew.alloc (.cells #[.int .i64 (i : Nat)] 3) := hV1
   rw [hV1'] at hg2 hl2
   rw [← HE2.out] at hg2 hl2
   have hLP := qzL ((hL4.out.then_ (W2 := U2.drew) (Below.drew (Below.refl _ _))).put HQ.out HK.out HWV.out (.inr ⟨v, qzK HV.out, rfl⟩) hO2 hg2 hl2 hM3 hU3 lU2)
   have lP : N ≤ W3.heap.size := by have h1 := hg2.size; have h2 := hU3.s; have h3 : (U2.drew.alloc (.cells #[.int .i64 (i : Nat)] 3)).heap.size = U2.heap.size + 1 := (by simp); omega
   go_wp2
   go_roundw
   case rel => exact ⟨j + 1, cnt2 + 1, _, _, n2 + 1, by simp, by omega, by omega, lP, qzL (hLP.out.wd fun x hx => by
    rcases hx with hx | ⟨p, hp, e⟩
    ·exact .inl (.inl hx)
    ·rw [List.take_add_one, HV.out] at hp
     rcases List.mem_append.1 hp with hp | hp
     ·exact .inl (.inr ⟨p, hp, e⟩)
     ·have hp : p = v := by simpa using hp
      exact .inr (by rw [← e, hp]))⟩
   case measure => simp [intOf]; omega
theorem step_cnt {c : Con} {r : Rd} {x : Int} (hx : -1 ≤ x ∧ x < (c.ac.length : Int)) : (r.step c x).steps = r.steps + 1 ∧ (r.step c x).day = if x = -1 then r.day + 1 else r.day := by
 unfold Rd.step
 by_cases e : x = -1
 ·rw [if_pos e, if_pos e]; exact ⟨rfl, rfl⟩
 ·rw [if_neg e, if_neg e]
  obtain ⟨a, ha⟩ : ∃ a, c.ac[x.toNat]? = some a := ⟨_, qzJ (by omega)⟩
  unfold Rd.act
  rw [ha]
  simp only
  split <;> exact ⟨rfl, rfl⟩
theorem xF5 {c : Con} : ∀ {l : List Int} {d : Int}, chkL c d l = 0 → ∀ x ∈ l, -1 ≤ x ∧ x < (c.ac.length : Int)
 | [], _, _, _, hx => by cases hx
 | y :: l, d, h, x, hx => by
  rw [chkL] at h
  split at h
  ·cases h
  ·next h1 =>
   split at h
   ·cases h
   ·rcases List.mem_cons.1 hx with rfl | hx
    ·rw [not_or] at h1; omega
    ·exact xF5 h x hx
theorem chk_zero {c : Con} {l : List Int} (h : c.chk l = 0) : c.ok = true ∧ l.length ≤ 4000 ∧ ∀ x ∈ l, -1 ≤ x ∧ x < (c.ac.length : Int) := by
 unfold Con.chk at h
 split at h
 ·cases h
 ·next h1 =>
  split at h
  ·cases h
  ·exact ⟨by cases hc : c.ok with | true => rfl | false => exact absurd hc h1, by omega, xF5 h⟩
structure FL (w W : World) (b : Nat) (c : Con) (m : Cm) (l : List Int) (i : Nat) (r : Rd) (wl : Int → List Int) (q : Rq) : Prop where
 rd : Rdm w W b c m r wl q
 g : RG c r wl
 n : q.n ≤ 1000000 + 1000 * i
 e : r = (l.take i).foldl (fun r x => r.step c x) c.read0
 s : r.steps = i
 d : 0 ≤ r.day ∧ r.day ≤ i
theorem FL.start {w W : World} {b : Nat} {c : Con} {m : Cm} {l : List Int} {wl : Int → List Int} {q : Rq} (h : Rdm w W b c m c.read0 wl q) (hG : RG c c.read0 wl) (hn : q.n ≤ 1000000) : FL w W b c m l 0 c.read0 wl q :=
 ⟨h, hG, by omega, rfl, rfl, Int.le_refl _, Int.le_refl _⟩
theorem FL.next {w W W' : World} {b : Nat} {c : Con} {m : Cm} {l : List Int} {i : Nat} {r : Rd} {wl : Int → List Int} {q : Rq} {x : Int} (h : FL w W b c m l i r wl q) (hx : l[i]? = some x) (hr : -1 ≤ x ∧ x < (c.ac.length : Int)) {W0 : World} (hs : StepR w W0 W' b c m (r.step c x) q) : ∃ wl' q', FL w W' b c m l (i + 1) (r.step c x) wl' q' ∧ q'.o = q.o ∧ q'.h = q.h := by
 obtain ⟨wl', f, n, h1, h2, h3⟩ := hs.x
 obtain ⟨e1, e2⟩ := step_cnt (c := c) (r := r) hr
 refine ⟨wl', q.wf f n, ⟨h1, h2, ?_, ?_, ?_, ?_⟩, rfl, rfl⟩
 ·have h4 := h.n
  have h5 : n ≤ 1000000 + 1000 * (i + 1) := by omega
  exact h5
 ·rw [List.take_add_one, hx, List.foldl_append, ← h.e]
  rfl
 ·rw [e1, h.s]; rfl
 ·rw [e2]
  have := h.d
  split <;> omega
theorem FL.then_ {w W W' : World} {b : Nat} {c : Con} {m : Cm} {l : List Int} {i : Nat} {r : Rd} {wl : Int → List Int} {q : Rq} (h : FL w W b c m l i r wl q) (hb : Below W.heap.size W W') : FL w W' b c m l i r wl q := ⟨h.rd.then_ hb, h.g, h.n, h.e, h.s, h.d⟩
theorem FL.call {w W : World} {b : Nat} {c : Con} {m : Cm} {l : List Int} {i : Nat} {r : Rd} {wl : Int → List Int} {q : Rq} {x : Int} (h : FL w W b c m l i r wl q) (hok : c.ok = true) (hi : i ≤ 1000000) (hx : l[i]? = some x) (hr : -1 ≤ x ∧ x < (c.ac.length : Int)) :
  Calls Tryz.prog 60 #[.pointer (some ⟨b, 0, none⟩), .int .i64 x] W fun e w' => e = .returned (.tuple #[]) ∧ (∃ wl' q', FL w w' b c m l (i + 1) (r.step c x) wl' q' ∧ q'.o = q.o ∧ q'.h = q.h) ∧ Kept W w' (q.pS b) :=
 (stepR_any w b c m r wl q x W h.rd hok (xCv hok).1 (xCv hok).2.1 h.g (by rw [h.s]; omega) ⟨h.d.1, by have := h.d.2; omega⟩ hr (by have := h.n; omega)).mono fun e w' ⟨h1, h2⟩ => ⟨h1, h.next hx hr h2, h2.k⟩
theorem follow_any (c : Con) (m : Cm) (l : List Int) (A : Option Addr) (cap : Nat) (w : World) (hC : Cont w c m) (hA : Seg w w.heap.size 1 eI A l) (hk : c.chk l = 0) :
  Calls Tryz.prog 43 #[.agg (coA c m), .slice A l.length cap] w fun e w' => ∃ b wl q, e = .returned (.pointer (some ⟨b, 0, none⟩)) ∧ Rdm w w' b c m (c.follow l) wl q ∧ RG c (c.follow l) wl ∧ Below w.heap.size w w' := by
 obtain ⟨hok, hl, hr⟩ := chk_zero hk
 have HC := qzL hC
 have HA := qzL hA
 have HOK := qzL hok
 have HR := qzL hr
 have na := hC.na
 clear hC hA hok hr hk
 go_enter Tryz.func43, Tryz.ntmps43
 go_upto_region 1 with (fail)
 refine xAi ?_
 intro X hX
 have ga : Blk X w.heap.size 27 (coA c m) := by rw [hX]; exact Blk.new _ _ _
 have HB : Below w.heap.size w X := by rw [hX]; exact wa1 _ _
 obtain ⟨ba, eba⟩ : ∃ b, w.heap.size = b := ⟨_, rfl⟩
 rw [eba] at ga ⊢
 have lX := HB.size
 clear hX eba
 go_upto_region 2 with (first | (refine xAf (by rfl) 27 _ rfl ba rfl 27 _ ga ⟨_, Tryz.underlying27⟩ (by kernel_rfl) ?_; simp only [Act.put, qzG, qzH, qzI]) | (go_at_call 59; (with_reducible refine (begin_any c m X (HC.out.then_ HB) HOK.out).mono ?_); rintro e w1 ⟨b, wl0, q0, rfl, hR0, hG0, hn0, hb1⟩))
 have h0 : Hid (FL X w1 b c m l 0 c.read0 wl0 q0) := FL.start hR0 hG0 hn0
 have HAX := qzL (show Seg X X.heap.size 1 eI A l from (HA.out.below HB).more HB.size)
 clear hR0 hG0 hn0 hb1 ga
 go_upto_region 3 with (fail)
 go_loopw [7, 12] (fun _ y WR => ∃ (i : Nat) (r : Rd) (wl : Int → List Int) (q : Rq), y = .int .i64 i ∧ i ≤ l.length ∧ Hid (FL X WR b c m l i r wl q)) (fun _ y _ => 2000000 - (intOf y).toNat)
 case atStart => exact ⟨0, _, _, _, rfl, by omega, h0⟩
 case round =>
  clear h0
  obtain ⟨i, r, wl, q, rfl, hi, hL⟩ := hrel
  by_cases hlt : i < l.length
  case neg =>
   obtain rfl : i = l.length := by omega
   have tl : decide (((l.length : Nat) : Int) < ((l.length : Nat) : Int)) = false := qzN (by omega)
   go_wp2
   go_ret
   have e := hL.out.e
   rw [List.take_length] at e
   have hb : Below w.heap.size w wr := xAa HB hL.out.rd.hb
   have hrd := hL.out.rd
   subst e
   exact ⟨b, wl, q, rfl, ⟨hrd.g, hrd.gc, hrd.oh.more lX, hrd.oa.more lX, hrd.ok.more lX, hrd.oo.more lX, hrd.mp, fun k => (hrd.ol k).more lX, hrd.ap, hrd.ah, hb, ⟨by have := hrd.lb; omega, by have := hrd.lb; omega, by have := hrd.lb; omega⟩, hrd.bb, HC.out, hrd.lo, hrd.lh, hrd.la⟩, hL.out.g, hb⟩
  have tl : decide ((i : Int) < (l.length : Int)) = true := qzO (by omega)
  obtain ⟨x, hx⟩ : ∃ x, l[i]? = some x := ⟨_, qzJ hlt⟩
  obtain ⟨b0, o0, eA0, hb0, hc0⟩ := xAv (HAX.out.below hL.out.rd.hb) hx
  have hix := fun W => xAp (t := 22) (size := 1) (cap := cap) eA0 hlt (by kernel_rfl) (fun W => by kernel_rfl) W
  have d0 : wr.cell? ⟨b0, o0 + i, none⟩ = some (.int .i64 x) := by simpa using hc0 0 _ rfl
  simp only [Nat.mul_one] at hix
  have HX := qzL hx
  have HCL := qzL (hL.out.call HOK.out (by omega) hx (HR.out x (qzK hx)))
  clear hc0 eA0 hx
  go_wp2_with (go_at_call 60; (with_reducible refine HCL.out.mono ?_); rintro e w2 ⟨rfl, ⟨wl', q', hL', _, _⟩, _⟩; have HL' := qzL hL'; clear hL')
  go_roundw
  case rel => exact ⟨i + 1, _, _, _, by simp, by omega, HL'⟩
  case measure => simp [intOf]; omega
def RetO (w : World) (E : Int) (L : List Out) (e : Ending) (w' : World) : Prop :=
 (∃ A n cap, e = .returned (.tuple #[.slice A n cap, .int .i64 E]) ∧ (E = 0 → n = L.length ∧ Seg w' w'.heap.size 5 eO A L ∧ L.length ≤ cap)) ∧ Below w.heap.size w w'
theorem Own.seg_ {α : Type} {w : World} {B : Nat} {T : TypeId} {size : Nat} {enc : α → List Value} {g n cap : Nat} {xs : List α} (hl : ∀ x, (enc x).length = size) (h : Own w B T size enc (.slice (some ⟨g, 0, none⟩) n cap) xs) : Seg w w.heap.size size enc (some ⟨g, 0, none⟩) xs ∧ xs.length = n ∧ n ≤ cap := by
 obtain ⟨A, c2, e, hc, hs⟩ := h.seg hl
 cases e
 exact ⟨hs, rfl, hc⟩
theorem xHj (c : Con) (m : Cm) (l : List Int) (A : Option Addr) (cap : Nat) (w : World) (hC : Cont w c m) (hA : Seg w w.heap.size 1 eI A l) (nl : l.length ≤ 1000000) :
  Calls Tryz.prog 17 #[.agg (coA c m), .slice A l.length cap] w (RetO w (c.chk l) ((c.follow l).oc.map (·.1))) := by
 have HC := qzL hC
 have HA := qzL hA
 obtain ⟨E, hE⟩ : ∃ E, c.chk l = E := ⟨_, rfl⟩
 rw [hE]
 have HE := qzL hE
 have HCK := qzL (fun W (hb : Below w.heap.size w W) => check_any c m l A cap W (hC.then_ hb) ((hA.below hb).more hb.size) nl)
 rw [hE] at HCK
 clear hC hA hE
 go_enter Tryz.func17, Tryz.ntmps17
 go_upto_region 1 with (fail)
 refine xAi ?_
 intro X hX
 have ga : Blk X w.heap.size 27 (coA c m) := by rw [hX]; exact Blk.new _ _ _
 have HB : Below w.heap.size w X := by rw [hX]; exact wa1 _ _
 obtain ⟨ba, eba⟩ : ∃ b, w.heap.size = b := ⟨_, rfl⟩
 rw [eba] at ga ⊢
 clear hX eba
 go_upto_region 2 with (first | (refine xAf (by rfl) 27 _ rfl ba rfl 27 _ ga ⟨_, Tryz.underlying27⟩ (by kernel_rfl) ?_; simp only [Act.put, qzG, qzH, qzI]) | (go_at_call 42; (with_reducible refine (HCK.out _ HB).mono ?_); rintro e w1 ⟨rfl, hb1⟩))
 have ga1 := ga.then_ hb1
 have HB1 := qzL (xAa HB hb1)
 clear ga HB hb1
 by_cases h1 : E = 0
 case neg =>
  have t1 : (E != 0) = true := by simpa using h1
  have t1' : (E == 0) = false := by simpa using h1
  have H1 := qzL h1
  clear h1
  go_wp2
  refine bodyPost_ret (results_tmp2 rfl _ _ _) rfl ?_
  exact ⟨⟨_, _, _, rfl, fun h => absurd h H1.out⟩, HB1.out⟩
 have t1 : (E != 0) = false := by simpa using h1
 have t1' : (E == 0) = true := by simpa using h1
 have HZ : Hid (c.chk l = 0) := by unfold Hid; rw [HE.out, h1]
 have H1 := qzL h1
 clear h1
 go_upto_region 4 with (fail)
 clear t1 t1'
 have HFO := qzL (follow_any c m l A cap w1 (HC.out.then_ HB1.out) ((HA.out.below HB1.out).more HB1.out.size) HZ.out)
 go_wp2_with (first | (refine xAf (by rfl) 27 _ rfl ba rfl 27 _ ga1 ⟨_, Tryz.underlying27⟩ (by kernel_rfl) ?_; simp only [Act.put, qzG, qzH, qzI]) | (go_at_call 43; (with_reducible refine HFO.out.mono ?_); rintro e w2 ⟨b, wl, q, rfl, hR, hG, hb2⟩; have HRD := qzL hR; have k14 : w2.cell? ⟨b, 14, none⟩ = some (.slice (some ⟨q.o, 0, none⟩) (c.follow l).oc.length q.oc) := hR.g.cell 14; clear hR hG))
 refine bodyPost_ret (results_tmp2 rfl _ _ _) rfl ?_
 rw [H1.out]
 obtain ⟨s1, s2, s3⟩ := Own.seg_ xDw HRD.out.oo
 refine ⟨⟨_, _, _, rfl, fun _ => ⟨?_, s1, ?_⟩⟩, xAa HB1.out hb2⟩
 ·rw [s2]
 ·rw [s2]; exact s3
end Go.Proofs.YtffceokjeonpcaaGreatDoor
namespace Go.Proofs.YtffceokjeonpcaaGreatDoor
open Go.RowKit
section
variable {c : Con}
theorem out_law {l : List Int} (h : c.runE l = 0) {s : Sta} (hs : (c.runS l)[l.length]? = some s) {i : Nat} {o : Out} (ho : ((c.follow l).oc.map (·.1))[i]? = some o) : i < c.cl.length ∧ (s.marks.getD i Mk.idle).st = o.st := by
 have hrs := run_rs h hs (xEt c l c.read0)
 have e := zip_tri hrs.inv.len
 have ho' : ((List.foldl (fun r x => r.step c x) c.read0 l).oc.map (·.1))[i]? = some o := ho
 have hi : i < c.cl.length := by
  have h1 := (qzM ho').1
  rw [List.length_map, hrs.inv.len] at h1
  exact h1
 refine ⟨hi, ?_⟩
 obtain ⟨x, hx⟩ : ∃ x, s.marks[i]? = some x := ⟨_, qzJ (by rw [hrs.ok.m]; exact hi)⟩
 have e2 : ((List.foldl (fun r x => r.step c x) c.read0 l).marks c |>.map Mk.tri)[i]? = (((List.foldl (fun r x => r.step c x) c.read0 l).oc.map (·.1)).map Out.tri)[i]? := by rw [e]
 rw [← hrs.rel.marks, List.getElem?_map, List.getElem?_map, hx, ho'] at e2
 simp only [Option.map_some, Option.some.injEq, Mk.tri, Out.tri, Prod.mk.injEq] at e2
 rw [List.getD_eq_getElem?_getD, hx]
 exact e2.1
theorem st_range {s : Sta} (h : SOk c s) {i : Nat} (hi : i < c.cl.length) : xEm (s.marks.getD i Mk.idle).st = xC2 (s.marks.getD i Mk.idle).st := by
 obtain ⟨x, hx⟩ : ∃ x, s.marks[i]? = some x := ⟨_, qzJ (by rw [h.m]; exact hi)⟩
 obtain ⟨k, hk⟩ : ∃ k, c.cl[i]? = some k := ⟨_, qzJ hi⟩
 have hm := h.mr i k x hk hx
 rw [List.getD_eq_getElem?_getD, hx]
 show xEm x.st = xC2 x.st
 unfold xBs at hm
 unfold xEm xC2
 split at hm
 ·next e => rw [e]; decide
 split at hm
 ·next e => rw [e]; decide
 split at hm
 ·next e => rw [e]; decide
 split at hm
 ·next e => rcases e with e | e | e <;> rw [e] <;> decide
 ·cases hm
theorem acc_run (hc : c.ok = true) (l : List Int) (hl : l.length ≤ 20) : c.runE (accL c c.first l) = 0 := by
 have h1 := accL_run c l c.first
 have h2 := xGx c l c.first
 unfold Con.runE Con.startE
 rw [hc, if_neg (by decide), if_neg (by omega)]
 exact h1
theorem runE_bad (hc : c.ok = false) (l : List Int) : c.runE l = 1 := by
 unfold Con.runE Con.startE
 rw [hc]
 rfl
theorem last_ok {l : List Int} (h : c.runE l = 0) : ∃ s, (c.runS l)[l.length]? = some s ∧ SOk c s := by
 obtain ⟨s, hs⟩ : ∃ s, (c.runS l)[l.length]? = some s := ⟨_, qzJ (by rw [runS_len h]; omega)⟩
 exact ⟨s, hs, (run_rs h hs (xEt c l c.read0)).ok⟩
theorem xIg {p : See} : ∀ {l : List Int} {s : Sta}, runE c s l = 0 → ∀ x ∈ xBk c p s l, x = -1 ∨ (0 ≤ x ∧ x < (c.ac.length : Int))
 | [], _, _, x, hx => by cases hx
 | y :: l, s, h, x, hx => by
  have hE1 : s.stepE c y = 0 := by
   rw [runE] at h
   split at h
   ·assumption
   ·next h2 => exact absurd h h2
  have hE2 : runE c (s.step c y) l = 0 := by rw [runE, if_pos hE1] at h; exact h
  have hb := xFb hE1
  unfold xBk at hx
  split at hx
  ·rcases List.mem_cons.1 hx with e | hx
   ·rw [e]; omega
   ·exact xIg hE2 x hx
  ·exact xIg hE2 x hx
theorem belief_law {p : See} (hp : Pub p) {l : List Int} (h : c.runE l = 0) {R : List Sta} (hW : watchF c p (xBk c p c.first l) = (0, R)) {s : Sta} (hs : (c.runS l)[l.length]? = some s) :
  s ∈ R ∧ ∀ i o, ((c.follow l).oc.map (·.1))[i]? = some o → xD3 R i = 0 ∨ xD3 R i = xC2 o.st := by
 have h1 := (xG0 hp h).2
 rw [hW] at h1
 have hm := h1 rfl s hs
 refine ⟨hm, fun i o ho => ?_⟩
 obtain ⟨hi, he⟩ := out_law h hs ho
 obtain ⟨s', hs', hok⟩ := last_ok h
 rw [hs] at hs'
 obtain rfl : s = s' := Option.some.inj hs'
 rw [← he, ← st_range hok hi]
 exact verd_mem hm i
end
abbrev laidB : List (String × DataW Unit) := [("math/bits.deBruijn32tab", Rows.laid_math_bits_deBruijn32tab), ("math/bits.deBruijn64tab", Rows.laid_math_bits_deBruijn64tab), ("internal/strconv.uint64pow10", Rows.laid_internal_strconv_uint64pow10)]
theorem tab_of {W : World} (h : laidMet Tryz.prog laidB W) : Lib.TabIs Tryz.prog W "internal/strconv.uint64pow10" .u64 Lib.pow10Tab :=
 Lib.tabIs_of_head (g := 0) (t := 197) (e := 166) (n := 20) (by kernel_rfl) (by kernel_rfl) Tryz.underlying197 Tryz.underlying166 (by kernel_rfl) (by kernel_rfl) h.tail.tail
theorem lx_of {W : World} (h : laidMetH Tryz.prog laidB W) : Lx W := by
 rw [MakeChecks.laidMetH_plain _ _ _ (by kernel_rfl)] at h
 exact tab_of h
end Go.Proofs.YtffceokjeonpcaaGreatDoor
