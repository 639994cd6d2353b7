/- The walk of placed: symbols whose act types and clauses have positions of their own, in lists of the call's own. -/
import Derived.Test.YtcfjehohemdanaaDoorTd4
import Derived.Test.YtcfjehohemdanaaDoorCpy
namespace Go.Proofs.YtcfjehohemdanaaDoor
open Go.RowKit Go.Sort

theorem encAs_len (x : As) : (encAs x).length = 9 := rfl
theorem encCl_len (x : Cm) : (encCl x).length = 24 := rfl
theorem encAs_one (x : As) : ∀ u ∈ encAs x, u.oneCell' = true := by intro u hu; simp [encAs] at hu; rcases hu with rfl | rfl | rfl | rfl | rfl | rfl | rfl | rfl | rfl <;> rfl
theorem encCl_one (x : Cm) : ∀ u ∈ encCl x, u.oneCell' = true := by
  intro u hu; simp [encCl] at hu
  rcases hu with rfl | rfl | rfl | rfl | rfl | rfl | rfl | rfl | rfl | rfl | rfl | rfl | rfl | rfl | rfl | rfl | rfl | rfl | rfl | rfl | rfl | rfl | rfl | rfl <;> rfl
def plM (k : Nat) (l : List Cm) : List Cm := l.mapIdx fun i x => if i < k then { x with c := { x.c with pos := 2000 + i } } else x
theorem plM_len (k : Nat) (l : List Cm) : (plM k l).length = l.length := by simp [plM]
theorem plM_get {l : List Cm} {i : Nat} {c : Cm} (h : l[i]? = some c) (k : Nat) : (plM k l)[i]? = some (if i < k then { c with c := { c.c with pos := 2000 + i } } else c) := by simp [plM, h]
theorem plM_map (k : Nat) (l : List Cm) : (plM k l).map (·.c) = plC k (l.map (·.c)) := by
  apply List.ext_getElem?
  intro i
  simp only [plM, plC, List.getElem?_map, List.getElem?_mapIdx]
  cases l[i]? with
  | none => rfl
  | some x => simp only [Option.map_some]; split <;> rfl
theorem plA0 (l : List As) : plA 0 l = l := by
  apply List.ext_getElem?; intro i; simp [plA, List.getElem?_mapIdx]
theorem plM0 (l : List Cm) : plM 0 l = l := by
  apply List.ext_getElem?; intro i; simp [plM, List.getElem?_mapIdx]
theorem plA_set {l : List As} {k : Nat} {a : As} (h : l[k]? = some a) : (plA k l).set k { a with pos := 1000 + k } = plA (k + 1) l := by
  apply List.ext_getElem?
  intro i
  have hk := (List.getElem?_eq_some_iff.1 h).1
  rw [List.getElem?_set]
  by_cases hi : k = i
  · subst hi
    simp only [if_true, plA, List.length_mapIdx, hk, List.getElem?_mapIdx, h, Option.map_some, Nat.lt_succ_self]
  · simp only [hi, if_false, plA, List.getElem?_mapIdx]
    cases l[i]? with
    | none => rfl
    | some x => simp only [Option.map_some]; congr 1; split <;> split <;> first | rfl | omega
theorem plM_set {l : List Cm} {k : Nat} {a : Cm} (h : l[k]? = some a) : (plM k l).set k { a with c := { a.c with pos := 2000 + k } } = plM (k + 1) l := by
  apply List.ext_getElem?
  intro i
  have hk := (List.getElem?_eq_some_iff.1 h).1
  rw [List.getElem?_set]
  by_cases hi : k = i
  · subst hi
    simp only [if_true, plM, List.length_mapIdx, hk, List.getElem?_mapIdx, h, Option.map_some, Nat.lt_succ_self]
  · simp only [hi, if_false, plM, List.getElem?_mapIdx]
    cases l[i]? with
    | none => rfl
    | some x => simp only [Option.map_some]; congr 1; split <;> split <;> first | rfl | omega
/-- a nil slice has no elements and no capacity -/
structure Nls (s : Sy) (m : Sm) : Prop where
  a : m.a = none → s.ac = [] ∧ m.ac = 0
  c : m.c = none → m.cs = [] ∧ m.cc = 0
  r : m.r = none → s.ro = [] ∧ m.rc = 0
/-- the places of symbols whose act types and clauses were copied -/
abbrev cpM (m : Sm) (ga ca gc cc : Nat) (cs : List Cm) : Sm := { m with a := some ⟨ga, 0, none⟩, ac := ca, c := some ⟨gc, 0, none⟩, cc := cc, cs := cs }
theorem own_setCells {α : Type} {B : Nat} {T : TypeId} {size : Nat} {enc : α → List Value} {v : Value} {xs : List α} {g : Nat} (hne : ∀ k, v.ownBlock = some k → k ≠ g) : ∀ (vs : List Value) (o : Nat) (w : World), Own w B T size enc v xs → Own (w.setCells g o vs) B T size enc v xs
  | [], _, _, h => h
  | u :: vs, o, w, h => by
    simp only [World.setCells]
    exact own_setCells hne vs (o + 1) _ (h.setNe (p := ⟨g, o, none⟩) hne u)
structure Plc (w : World) (s : Sy) (M : Sm) (b2 b3 ga ca gc cc : Nat) (W : World) (xs : List As) (ys : List Cm) : Prop where
  R : Blk W b2 34 #[.string ⟨#[]⟩, .int .i64 0, .int .i64 0, .int .i64 0, .int .i64 0, .bool false, .bool false, .bool false, .bool false, .bool false, .bool false, .bool false, .slice none 0 0, .slice none 0 0, .slice none 0 0, .slice none 0 0, .slice none 0 0, .slice none 0 0]
  O : Blk W b3 34 (syA s M)
  A : Own W w.heap.size 60 9 encAs (.slice (some ⟨ga, 0, none⟩) s.ac.length ca) xs
  C : Own W w.heap.size 51 24 encCl (.slice (some ⟨gc, 0, none⟩) s.cl.length cc) ys
  B : Below w.heap.size w W
  g : ga < W.heap.size ∧ gc < W.heap.size
  n : w.heap.size ≤ ga ∧ ga < gc ∧ b3 < ga ∧ b2 < ga ∧ b2 ≠ b3 ∧ w.heap.size ≤ b2 ∧ w.heap.size ≤ b3
section
variable {w : World} {s : Sy} {M : Sm} {b2 b3 ga ca gc cc : Nat} {W : World} {xs : List As} {ys : List Cm}
theorem Plc.setA (h : Plc w s M b2 b3 ga ca gc cc W xs ys) (hn : xs.length = s.ac.length) {k : Nat} {x : As} (hx : xs[k]? = some x) (p : Int) : Plc w s M b2 b3 ga ca gc cc (W.setCell ⟨ga, k * 9 + 1, none⟩ (.int .i64 p)) (xs.set k { x with pos := p }) ys := by
  have n := h.n
  exact ⟨h.R.far (p := ⟨ga, k * 9 + 1, none⟩) (by simp; omega) _, h.O.far (p := ⟨ga, k * 9 + 1, none⟩) (by simp; omega) _, h.A.setAt encAs_len hn hx (by omega) rfl, h.C.setNe (p := ⟨ga, k * 9 + 1, none⟩) (by intro j hj; cases hj; simp; omega) _, h.B.setCell (p := ⟨ga, k * 9 + 1, none⟩) n.1 _, by have := h.g; simpa using this, n⟩
theorem Plc.setC (h : Plc w s M b2 b3 ga ca gc cc W xs ys) (hn : ys.length = s.cl.length) {k : Nat} {x : Cm} (hx : ys[k]? = some x) (p : Int) : Plc w s M b2 b3 ga ca gc cc (W.setCell ⟨gc, k * 24 + 1, none⟩ (.int .i64 p)) xs (ys.set k { x with c := { x.c with pos := p } }) := by
  have n := h.n
  exact ⟨h.R.far (p := ⟨gc, k * 24 + 1, none⟩) (by simp; omega) _, h.O.far (p := ⟨gc, k * 24 + 1, none⟩) (by simp; omega) _, h.A.setNe (p := ⟨gc, k * 24 + 1, none⟩) (by intro j hj; cases hj; simp; omega) _, h.C.setAt encCl_len hn hx (by omega) rfl, h.B.setCell (p := ⟨gc, k * 24 + 1, none⟩) (by simp; omega) _, by have := h.g; simpa using this, n⟩
end
set_option maxRecDepth 100000 in
set_option maxHeartbeats 6400000 in
theorem placed_any (s : Sy) (m : Sm) (w : World) (hm : Smb w s m) (hz : Nls s m) : Calls Tryd.prog 12 #[.agg (syA s m)] w fun e w' => ∃ ga ca gc cc, e = .returned (.agg (syA s (cpM m ga ca gc cc (plM s.cl.length m.cs)))) ∧ Below w.heap.size w w' ∧ (w.heap.size ≤ ga ∧ ga < gc) ∧
    Own w' w.heap.size 60 9 encAs (.slice (some ⟨ga, 0, none⟩) s.ac.length ca) (plA s.ac.length s.ac) ∧ Own w' w.heap.size 51 24 encCl (.slice (some ⟨gc, 0, none⟩) s.cl.length cc) (plM s.cl.length m.cs) := by
  have HM := Lib.hid hm
  have HZ := Lib.hid hz
  obtain ⟨ri, hin, hz0, hz1, hz2⟩ := info_parts (show (Tryd.prog.info? 60).map (fun i => (i.zero, i.size, i.bytes)) = some (some (.agg #[.string ⟨#[]⟩, .int .i64 0, .int .i64 0, .int .i64 0, .int .i64 0, .int .i64 0, .int .i64 0, .int .i64 0, .int .i64 0]), 9, 80) by kernel_rfl)
  have hla : s.ac.length ≤ 1000000 := hm.la
  have hlc : s.cl.length ≤ 1000000 := hm.lc
  clear hm hz
  go_enter Tryd.func12, Tryd.ntmps12
  go_upto_region 1 with (fail)
  refine name_wp ?_
  intro X hX
  have gX : Blk X w.heap.size 34 (syA s m) := by rw [hX]; exact (Blk.new _ _ _).alloc _
  have gR : Blk X (w.heap.size + 1) 34 #[.string ⟨#[]⟩, .int .i64 0, .int .i64 0, .int .i64 0, .int .i64 0, .bool false, .bool false, .bool false, .bool false, .bool false, .bool false, .bool false, .slice none 0 0, .slice none 0 0, .slice none 0 0, .slice none 0 0, .slice none 0 0, .slice none 0 0] := by rw [hX]; exact blk_at (by simp)
  have hbX : Below w.heap.size w X := by rw [hX]; exact below_alloc (wa1 _ _) _
  obtain ⟨b1, e1⟩ : ∃ b, w.heap.size = b := ⟨_, rfl⟩
  obtain ⟨b2, e2⟩ : ∃ b, w.heap.size + 1 = b := ⟨_, rfl⟩
  have lX : b2 < X.heap.size := e2 ▸ gR.lt
  rw [e2] at gR ⊢
  rw [e1] at gX ⊢
  have E1 := Lib.hid (And.intro e1 e2)
  clear hX e1 e2
  go_upto_region 2 with (first | (refine wpList_row_w (by rfl) 34 _ rfl b1 rfl 34 _ gX ⟨_, Tryd.underlying34⟩ (by kernel_rfl) ?_; simp only [Act.put, List.setIfInBounds_toArray, List.set_cons_succ, List.set_cons_zero]) | (refine wpList_new 34 el18 _ _ rfl rfl rfl rfl rfl rfl _ rfl (by simp [Value.oneCell']) (by simp) rfl ?_; simp only [Act.put, List.setIfInBounds_toArray, List.set_cons_succ, List.set_cons_zero]))
  refine name_wp ?_
  intro Y hY
  have hbY : Below X.heap.size X Y := by rw [hY]; exact wa1 _ _
  have gO : Blk Y X.heap.size 34 (syA s m) := by rw [hY]; exact Blk.new _ _ _
  obtain ⟨b3, e3⟩ : ∃ b, X.heap.size = b := ⟨_, rfl⟩
  rw [e3] at gO ⊢
  have hbY' : Below w.heap.size w Y := below_then hbX hbY
  have gX1 := gX.then_ hbY
  have gR1 := gR.then_ hbY
  have HN := Lib.hid (show (b1 ≠ b2 ∧ b1 ≠ b3 ∧ b2 ≠ b3) ∧ w.heap.size ≤ b1 ∧ w.heap.size ≤ b2 ∧ w.heap.size ≤ b3 by have := E1.out; omega)
  clear hY gX gR hbX hbY lX e3
  have hsy := (HM.out.then_ hbY').y
  have HSA : Hid (Seg Y Y.heap.size 9 encAs m.a s.ac) := hsy.a
  have HSC : Hid (Seg Y Y.heap.size 24 encCl m.c m.cs) := hsy.c
  have GX := Lib.hid gX1
  have GR := Lib.hid gR1
  have GO := Lib.hid gO
  have HBY := Lib.hid hbY'
  have l1 := gX1.lt
  have l3 := gO.lt
  have c16 : Y.cell? ⟨b1, 16, none⟩ = some (.slice m.a s.ac.length m.ac) := gX1.cell 16
  clear hsy gX1 gR1 gO hbY'
  go_upto_region 3 with (at_builtin; go_loud (refine wpList_copy rfl (.tmp 7) (.tmp 9) _ rfl Y.heap.size 60 ri _ 9 80 Tryd.underlying31 hin hz0 hz1 hz2 rfl (by omega) (by omega) encAs encAs_len encAs_one Y.heap.size rfl (Blk.new _ _ _) (Nat.le_refl _) m.a s.ac m.ac _ rfl rfl hla _ (HSA.out.below (wa1 _ _)) HZ.out.a ?_); intro ga ca V hO hb hg; have hbV : Below Y.heap.size Y V := (wa1 _ _).trans hb; have gV := GO.out.then_ hbV; have f16 : V.frozen? ⟨b3, 16, none⟩ = false := gV.frozen 16; have v16 : V.cell? ⟨b3, 16, none⟩ = some (.slice m.a s.ac.length m.ac) := gV.cell 16; have lV := gV.lt)
  refine name_wp ?_
  intro Z hZ
  have gXV := GX.out.then_ hbV
  have gRV := GR.out.then_ hbV
  have n := HN.out
  have nb := hg.1
  have ls : Y.heap.size ≤ V.heap.size := hbV.size
  have lbY : b3 < Y.heap.size := l3
  have hbZ : Below w.heap.size w Z := by rw [hZ]; exact (HBY.out.trans (hbV.mono HBY.out.size)).setCell (p := ⟨b3, 16, none⟩) n.2.2.2 _
  have gX2 : Blk Z b1 34 (syA s m) := by rw [hZ]; exact gXV.far (p := ⟨b3, 16, none⟩) n.1.2.1 _
  have gR2 : Blk Z b2 34 #[.string ⟨#[]⟩, .int .i64 0, .int .i64 0, .int .i64 0, .int .i64 0, .bool false, .bool false, .bool false, .bool false, .bool false, .bool false, .bool false, .slice none 0 0, .slice none 0 0, .slice none 0 0, .slice none 0 0, .slice none 0 0, .slice none 0 0] := by rw [hZ]; exact gRV.far (p := ⟨b3, 16, none⟩) n.1.2.2 _
  have gO2 : Blk Z b3 34 (syA s { m with a := some ⟨ga, 0, none⟩, ac := ca }) := by rw [hZ]; exact gV.set_ 16 _
  have hOA : Own Z Y.heap.size 60 9 encAs (.slice (some ⟨ga, 0, none⟩) s.ac.length ca) s.ac := by rw [hZ]; exact hO.setBelow (p := ⟨b3, 16, none⟩) lbY _
  have hgZ : ga < Z.heap.size := by rw [hZ]; simpa using hg.2
  have HGA := Lib.hid (show w.heap.size ≤ ga ∧ b3 < ga ∧ ga < Z.heap.size by refine ⟨?_, ?_, hgZ⟩ <;> omega)
  have HOA := Lib.hid (hOA.more (B' := w.heap.size) HBY.out.size)
  have HBZ := Lib.hid hbZ
  have GX2 := Lib.hid gX2
  have GR2 := Lib.hid gR2
  have GO2 := Lib.hid gO2
  have l1' := gX2.lt
  have l3' := gO2.lt
  have c17 : Z.cell? ⟨b1, 17, none⟩ = some (.slice m.c s.cl.length m.cc) := gX2.cell 17
  have hcs : s.cl.length = m.cs.length := HM.out.len.symm
  have hlc' : m.cs.length ≤ 1000000 := by omega
  have HCS := Lib.hid hcs
  clear hcs
  have HSC2 : Hid (Seg Z Z.heap.size 24 encCl m.c m.cs) := (HM.out.then_ hbZ).y.c
  clear hZ gXV gRV nb ls lbY hbZ gX2 gR2 gO2 hOA hgZ hg hO hb hbV gV f16 v16 lV l1 l3 c16 n HSA HSC GX GR GO
  obtain ⟨rc, kin, kz0, kz1, kz2⟩ := info_parts (show (Tryd.prog.info? 51).map (fun i => (i.zero, i.size, i.bytes)) = some (some (.agg #[.string ⟨#[]⟩, .int .i64 0, .int .i64 0, .bool false, .string ⟨#[]⟩, .int .i64 0, .bool false, .string ⟨#[]⟩, .int .i64 0, .int .i64 0, .int .i64 0, .int .i64 0, .slice none 0 0, .int .i64 0, .int .i64 0, .bool false, .bool false, .int .i64 0, .int .i64 0, .int .i64 0, .int .i64 0, .int .i64 0, .int .i64 0, .bool false]), 24, 224) by kernel_rfl)
  go_upto_region 4 with (at_builtin; go_loud (refine wpList_copy rfl (.tmp 12) (.tmp 14) _ rfl Z.heap.size 51 rc _ 24 224 Tryd.underlying32 kin kz0 kz1 kz2 rfl (by omega) (by omega) encCl encCl_len encCl_one Z.heap.size rfl (Blk.new _ _ _) (Nat.le_refl _) m.c m.cs m.cc _ rfl HCS.out hlc' _ (HSC2.out.below (wa1 _ _)) HZ.out.c ?_); intro gc cc V hO hb hg; have hbV : Below Z.heap.size Z V := (wa1 _ _).trans hb; have gV := GO2.out.then_ hbV; have f17 : V.frozen? ⟨b3, 17, none⟩ = false := gV.frozen 17; have v17 : V.cell? ⟨b3, 17, none⟩ = some (.slice m.c s.cl.length m.cc) := gV.cell 17; have lV := gV.lt)
  refine name_wp ?_
  intro U hU
  have gXV := GX2.out.then_ hbV
  have gRV := GR2.out.then_ hbV
  have n := HN.out
  have nb := hg.1
  have ls : Z.heap.size ≤ V.heap.size := hbV.size
  have hbU : Below w.heap.size w U := by rw [hU]; exact (HBZ.out.trans (hbV.mono HBZ.out.size)).setCell (p := ⟨b3, 17, none⟩) n.2.2.2 _
  have gR3 : Blk U b2 34 #[.string ⟨#[]⟩, .int .i64 0, .int .i64 0, .int .i64 0, .int .i64 0, .bool false, .bool false, .bool false, .bool false, .bool false, .bool false, .bool false, .slice none 0 0, .slice none 0 0, .slice none 0 0, .slice none 0 0, .slice none 0 0, .slice none 0 0] := by rw [hU]; exact gRV.far (p := ⟨b3, 17, none⟩) n.1.2.2 _
  have gO3 : Blk U b3 34 (syA s (cpM m ga ca gc cc (plM s.cl.length m.cs))) := by rw [hU]; have h := gV.set_ 17 (.slice (some ⟨gc, 0, none⟩) m.cs.length cc); rw [← HCS.out] at h ⊢; exact h
  have hOC : Own U w.heap.size 51 24 encCl (.slice (some ⟨gc, 0, none⟩) m.cs.length cc) m.cs := by rw [hU]; exact (hO.setBelow (p := ⟨b3, 17, none⟩) l3' _).more HBZ.out.size
  have hOA : Own U w.heap.size 60 9 encAs (.slice (some ⟨ga, 0, none⟩) s.ac.length ca) s.ac := by
    rw [hU]; exact (HOA.out.below hbV).setNe (p := ⟨b3, 17, none⟩) (by intro k hk; cases hk; have := HGA.out.2.1; simp; omega) _
  have HG := Lib.hid (show (w.heap.size ≤ ga ∧ b3 < ga ∧ ga < gc) by have := HGA.out; omega)
  have HBU := Lib.hid hbU
  rw [← HCS.out] at hOC ⊢
  have hGU : ga < U.heap.size ∧ gc < U.heap.size := by rw [hU]; have := HGA.out.2.2; have := hg.2; simp; omega
  have HGU := Lib.hid hGU
  clear hU gXV gRV nb ls hbU hg hO hb hbV gV f17 v17 lV l1' l3' c17 n GX2 GR2 GO2 HGA HOA HBZ HSC2 hGU
  have hP : Plc w s (cpM m ga ca gc cc (plM s.cl.length m.cs)) b2 b3 ga ca gc cc U s.ac m.cs := ⟨gR3, gO3, hOA, hOC, HBU.out, HGU.out, by have := HG.out; have := HN.out; have := E1.out; omega⟩
  have HP0 := Lib.hid hP
  clear hP gR3 gO3 hOC hOA HG HBU HGU
  go_upto_region 5 with (fail)
  go_loopw [4] (fun x wr => ∃ k : Nat, k ≤ s.ac.length ∧ x = .int .i64 k ∧ Hid (Plc w s (cpM m ga ca gc cc (plM s.cl.length m.cs)) b2 b3 ga ca gc cc wr (plA k s.ac) m.cs)) (fun x _ => 2000000 - (intOf x).toNat)
  case atStart => exact ⟨0, by omega, rfl, by rw [plA0]; exact HP0⟩
  case round =>
    clear HP0
    obtain ⟨k, hk, rfl, HP⟩ := hrel
    have c16 : wr.cell? ⟨b3, 16, none⟩ = some (.slice (some ⟨ga, 0, none⟩) s.ac.length ca) := HP.out.O.cell 16
    have l3 := HP.out.O.lt
    by_cases hlt : k < s.ac.length
    · obtain ⟨x, hx⟩ : ∃ x, s.ac[k]? = some x := ⟨_, List.getElem?_eq_getElem hlt⟩
      have hx' : (plA k s.ac)[k]? = some x := by rw [plA_get hx]; simp
      obtain ⟨q1, f1⟩ := HP.out.A.getAt encAs_len (plA_len _ _) hx' (j := 1) (by omega)
      have q1' : wr.cell? ⟨ga, k * 9 + 1, none⟩ = some (.int .i64 x.pos) := q1
      have HX := Lib.hid (And.intro hx hx')
      clear hx hx' q1
      go_wp2
      go_roundw
      case rel => exact ⟨k + 1, by omega, by go_num, by rw [← plA_set HX.out.1]; exact HP.out.setA (plA_len _ _) HX.out.2 _⟩
      case measure => simp [intOf]; omega
    · obtain rfl : k = s.ac.length := by omega
      clear hlt hk
      go_upto_region 9 with (fail)
      clear c16 l3
      go_loopw [5] (fun x wr => ∃ k : Nat, k ≤ s.cl.length ∧ x = .int .i64 k ∧ Hid (Plc w s (cpM m ga ca gc cc (plM s.cl.length m.cs)) b2 b3 ga ca gc cc wr (plA s.ac.length s.ac) (plM k m.cs))) (fun x _ => 2000000 - (intOf x).toNat)
      case atStart => exact ⟨0, by omega, rfl, by rw [plM0]; exact HP⟩
      case round =>
        clear HP
        obtain ⟨k, hk, rfl, HP⟩ := hrel
        have c17 : wr.cell? ⟨b3, 17, none⟩ = some (.slice (some ⟨gc, 0, none⟩) s.cl.length cc) := HP.out.O.cell 17
        have l3 := HP.out.O.lt
        by_cases hlt : k < s.cl.length
        · obtain ⟨x, hx⟩ : ∃ x, m.cs[k]? = some x := ⟨_, List.getElem?_eq_getElem (by rw [← HCS.out]; exact hlt)⟩
          have hx' : (plM k m.cs)[k]? = some x := by rw [plM_get hx]; simp
          obtain ⟨q1, f1⟩ := HP.out.C.getAt encCl_len (by rw [plM_len]; exact HCS.out.symm) hx' (j := 1) (by omega)
          have q1' : wr.cell? ⟨gc, k * 24 + 1, none⟩ = some (.int .i64 x.c.pos) := q1
          have HX := Lib.hid (And.intro hx hx')
          clear hx hx' q1
          go_wp2
          go_roundw
          case rel => exact ⟨k + 1, by omega, by go_num, by rw [← plM_set HX.out.1]; exact HP.out.setC (by rw [plM_len]; exact HCS.out.symm) HX.out.2 _⟩
          case measure => simp [intOf]; omega
        · obtain rfl : k = s.cl.length := by omega
          clear hlt hk
          go_wp2_with (first | (refine wpList_row_w (by rfl) 34 _ rfl b3 rfl 34 _ HP.out.O ⟨_, Tryd.underlying34⟩ (by kernel_rfl) ?_; simp only [Act.put, List.setIfInBounds_toArray, List.set_cons_succ, List.set_cons_zero]) | (refine wpList_store_blk rfl 34 _ _ rfl rfl b2 34 [] [.string ⟨#[]⟩, .int .i64 0, .int .i64 0, .int .i64 0, .int .i64 0, .bool false, .bool false, .bool false, .bool false, .bool false, .bool false, .bool false, .slice none 0 0, .slice none 0 0, .slice none 0 0, .slice none 0 0, .slice none 0 0, .slice none 0 0] [] _ rfl rfl HP.out.R rfl (by kernel_rfl) (by simp [Value.oneCell']) ?_))
          have hk := setCells_blk (g := b2) (t := 34) (syA s (cpM m ga ca gc cc (plM s.cl.length m.cs))).toList [] [.string ⟨#[]⟩, .int .i64 0, .int .i64 0, .int .i64 0, .int .i64 0, .bool false, .bool false, .bool false, .bool false, .bool false, .bool false, .bool false, .slice none 0 0, .slice none 0 0, .slice none 0 0, .slice none 0 0, .slice none 0 0, .slice none 0 0] [] wr rfl HP.out.R
          refine bodyPost_ret (ret_row rfl rfl hk ⟨_, Tryd.underlying34⟩ (by kernel_rfl)) rfl ⟨ga, ca, gc, cc, rfl, setCells_below HP.out.n.2.2.2.2.2.1 _ _ _ HP.out.B, ⟨HP.out.n.1, HP.out.n.2.1⟩, ?_, ?_⟩
          · exact own_setCells (by intro j hj; cases hj; have := HP.out.n; show ga ≠ b2; omega) _ _ _ HP.out.A
          · have h := own_setCells (g := b2) (by intro j hj; cases hj; have := HP.out.n; show gc ≠ b2; omega) (syA s (cpM m ga ca gc cc (plM s.cl.length m.cs))).toList 0 _ HP.out.C
            exact h
theorem placed_smb {s : Sy} {m : Sm} {w w' : World} {ga ca gc cc : Nat} (hm : Smb w s m) (hb : Below w.heap.size w w') (hA : Own w' w.heap.size 60 9 encAs (.slice (some ⟨ga, 0, none⟩) s.ac.length ca) (plA s.ac.length s.ac))
    (hC : Own w' w.heap.size 51 24 encCl (.slice (some ⟨gc, 0, none⟩) s.cl.length cc) (plM s.cl.length m.cs)) : Smb w' s.plc (cpM m ga ca gc cc (plM s.cl.length m.cs)) := by
  have h := hm.then_ hb
  obtain ⟨A1, c1, e1, _, h1⟩ := hA.seg encAs_len
  obtain ⟨A2, c2, e2, _, h2⟩ := hC.seg encCl_len
  injection e1 with q1 _ _
  injection e2 with q2 _ _
  subst q1 q2
  have hx : ∀ c ∈ s.plc.cl, ∃ d ∈ s.cl, c.c = d.c := by
    intro c hc
    obtain ⟨i, hi⟩ := List.mem_iff_getElem?.1 hc
    simp only [Sy.plc, plC, List.getElem?_mapIdx] at hi
    cases hd : s.cl[i]? with
    | none => rw [hd] at hi; cases hi
    | some d =>
      rw [hd] at hi
      refine ⟨d, List.mem_of_getElem? hd, ?_⟩
      simp only [Option.map_some, Option.some.injEq] at hi
      rw [← hi]; split <;> rfl
  have ha : ∀ a ∈ s.plc.ac, ∃ d ∈ s.ac, a.a = d.a := by
    intro c hc
    obtain ⟨i, hi⟩ := List.mem_iff_getElem?.1 hc
    simp only [Sy.plc, plA, List.getElem?_mapIdx] at hi
    cases hd : s.ac[i]? with
    | none => rw [hd] at hi; cases hi
    | some d =>
      rw [hd] at hi
      refine ⟨d, List.mem_of_getElem? hd, ?_⟩
      simp only [Option.map_some, Option.some.injEq] at hi
      rw [← hi]; split <;> rfl
  refine ⟨⟨h.y.h, h.y.p, h.y.r, h.y.u, h1, h2, ?_, fun y hy => ?_⟩, h.cu, h.lp, h.lr, h.lu, ?_, ?_, h.lh, fun c hc => ?_, h.bu, fun a hc => ?_, fun c hc => ?_⟩
  · rw [plM_map, h.y.e]; rfl
  · obtain ⟨i, hi⟩ := List.mem_iff_getElem?.1 hy
    simp only [plM, List.getElem?_mapIdx] at hi
    cases hd : m.cs[i]? with
    | none => rw [hd] at hi; cases hi
    | some d =>
      rw [hd] at hi
      have ht := h.y.t d (List.mem_of_getElem? hd)
      simp only [Option.map_some, Option.some.injEq] at hi
      rw [← hi]; split <;> exact ht
  · rw [show s.plc.ac.length = s.ac.length from plA_len _ _]; exact h.la
  · rw [show s.plc.cl.length = s.cl.length from plC_len _ _]; exact h.lc
  · obtain ⟨d, hd, e⟩ := hx c hc; rw [e]; exact h.lx d hd
  · obtain ⟨d, hd, e⟩ := ha a hc; rw [e]; exact h.ba d hd
  · obtain ⟨d, hd, e⟩ := hx c hc; rw [e]; exact h.bc d hd
theorem placed_syA (s : Sy) (M : Sm) : syA s M = syA s.plc M := by
  simp only [syA, Sy.plc, plA_len, plC_len]
end Go.Proofs.YtcfjehohemdanaaDoor
