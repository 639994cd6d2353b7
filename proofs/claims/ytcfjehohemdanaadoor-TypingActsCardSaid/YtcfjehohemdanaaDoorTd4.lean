/- The walk of the laws' head: fixed examples with known faults. -/
import Derived.Test.YtcfjehohemdanaaDoorTd3
namespace Go.Proofs.YtcfjehohemdanaaDoor
open Go.RowKit Go.Sort

theorem Blk.ne_ty {W : World} {g g' : Nat} {t t' : TypeId} {cs cs' : Array Value} (h : Blk W g t cs) (h' : Blk W g' t' cs') (ht : t ≠ t') : g ≠ g' := by
  rintro rfl
  have := h.symm.trans h'
  injection this with h1
  injection h1 with _ h3
  exact ht h3
structure Hd (w0 W : World) (g : Nat) (x : Xs) (s : Sy) : Prop where
  E : Exb W x s
  G : Blk W g 34 (syA s (xsM x s))
  B : Below w0.heap.size w0 W
theorem Hd.then_ {w0 W W' : World} {g : Nat} {x : Xs} {s : Sy} (h : Hd w0 W g x s) (hb : Below W.heap.size W W') : Hd w0 W' g x s := ⟨h.E.then_ hb, h.G.then_ hb, below_then h.B hb⟩
/-- a store into the clause -/
theorem Hd.setC {w0 W : World} {g : Nat} {x : Xs} {s s' : Sy} (h : Hd w0 W g x s) (hg : w0.heap.size ≤ x.c) (i : Nat) (v : Value) (he : s' = { s with cl := s'.cl }) (hl : s'.cl.length = s.cl.length) (hc : ((cmx s).flatMap encCl).toArray.setIfInBounds i v = ((cmx s').flatMap encCl).toArray) :
    Hd w0 (W.setCell ⟨x.c, i, none⟩ v) g x s' := by
  have hcc : Blk (W.setCell ⟨x.c, i, none⟩ v) x.c 51 ((cmx s').flatMap encCl).toArray := by rw [← hc]; exact h.E.c.set_ i v
  have hB := h.B.setCell (p := ⟨x.c, i, none⟩) hg v
  have hp := h.E.p.far (p := ⟨x.c, i, none⟩) (h.E.p.ne_ty h.E.c (by decide)) v
  have hr := h.E.r.far (p := ⟨x.c, i, none⟩) (h.E.r.ne_ty h.E.c (by decide)) v
  have hu := h.E.u.far (p := ⟨x.c, i, none⟩) (h.E.u.ne_ty h.E.c (by decide)) v
  have ha := h.E.a.far (p := ⟨x.c, i, none⟩) (h.E.a.ne_ty h.E.c (by decide)) v
  have hG := h.G.far (p := ⟨x.c, i, none⟩) (h.G.ne_ty h.E.c (by decide)) v
  rw [he]
  rw [he] at hcc
  exact ⟨⟨hp, hr, hu, ha, hcc⟩, by simpa only [syA, xsM, hl] using hG, hB⟩
theorem Hd.setA {w0 W : World} {g : Nat} {x : Xs} {s s' : Sy} (h : Hd w0 W g x s) (hg : w0.heap.size ≤ x.a) (i : Nat) (v : Value) (he : s' = { s with ac := s'.ac }) (hl : s'.ac.length = s.ac.length) (hc : (s.ac.flatMap encAs).toArray.setIfInBounds i v = (s'.ac.flatMap encAs).toArray) :
    Hd w0 (W.setCell ⟨x.a, i, none⟩ v) g x s' := by
  have hcc : Blk (W.setCell ⟨x.a, i, none⟩ v) x.a 60 (s'.ac.flatMap encAs).toArray := by rw [← hc]; exact h.E.a.set_ i v
  have hB := h.B.setCell (p := ⟨x.a, i, none⟩) hg v
  have hp := h.E.p.far (p := ⟨x.a, i, none⟩) (h.E.p.ne_ty h.E.a (by decide)) v
  have hr := h.E.r.far (p := ⟨x.a, i, none⟩) (h.E.r.ne_ty h.E.a (by decide)) v
  have hu := h.E.u.far (p := ⟨x.a, i, none⟩) (h.E.u.ne_ty h.E.a (by decide)) v
  have ha := h.E.c.far (p := ⟨x.a, i, none⟩) (h.E.c.ne_ty h.E.a (by decide)) v
  have hG := h.G.far (p := ⟨x.a, i, none⟩) (h.G.ne_ty h.E.a (by decide)) v
  rw [he]
  rw [he] at hcc
  exact ⟨⟨hp, hr, hu, hcc, ha⟩, by simpa only [syA, xsM, hl] using hG, hB⟩
def exB : Sy := { exS with cl := [{ exC with wi := ⟨401, false, tx []⟩ }] }
def exK1 : Sy := { exS with cl := [{ exC with gr := ⟨2, false, tx []⟩ }] }
def exK : Sy := { exS with cl := [{ exC with gr := ⟨2, true, tx []⟩ }] }
def exD1 : Sy := { exS with cl := [{ exC with c := { exC.c with unit := 0 } }] }
def exD2 : Sy := { exS with cl := [{ exC with c := { exC.c with unit := 0, to_ := 0 } }] }
def exD3 : Sy := { exS with cl := [{ exC with c := { exC.c with unit := 0, to_ := 0, v := (5, 1) } }] }
def exF : Sy := { exS with cl := [{ exC with c := { exC.c with act := 2 } }] }
def exG : Sy := { exS with cl := [{ exC with c := { exC.c with act := 1 } }] }
def exH1 : Sy := { exS with ac := [exA1, { exA2 with a := { exA2.a with unit := 0 } }] }
def exH : Sy := { exS with ac := [exA1, { exA2 with a := { exA2.a with unit := 0, lot := (1, 1) } }] }
def exZ : Sy := { exS with days := 0 }
theorem okS : okX exS ∧ okX exZ ∧ okX exB ∧ okX exK ∧ okX exD3 ∧ okX exF ∧ okX exG ∧ okX exH := by
  refine ⟨?_, ?_, ?_, ?_, ?_, ?_, ?_, ?_⟩ <;> simp [okX, exS, exZ, exB, exK, exD3, exF, exG, exH, exC, exA1, exA2, b64]
theorem txl (l : List UInt8) : (tx l).toList = l := (ByteArray.toList_eq _).trans (by simp [tx])
theorem chkS : chk exS = [] ∧ chk exZ = [(2, -1)] ∧ chk exB = [(2, 70)] ∧ chk exK = [(10, 70)] ∧ chk exD3 = [(11, 70)] ∧ chk exF = [(1, -1)] ∧ chk exG = [(10, 70)] ∧ chk exH = [(10, 60)] := by
  have d1 : okC 2026 1 5 = true := by decide
  have d2 : num 2026 1 5 = 13153 := by decide
  have d3 : vld 1 1 = true := by decide
  have d4 : vld 5 1 = true := by decide
  refine ⟨?_, ?_, ?_, ?_, ?_, ?_, ?_, ?_⟩ <;> simp [chk, wfS, Sy.sz, smallT, incr, isIx, inn, fmA, zero?, fmC, fm1, fm2, fm3, fm4, fm5, fm6, fm7, bnd, fre, fmS, noS, emp, txl, fU, fA, fC, eBeg, eUn, eAc, eCl, badBg, badUn, badNu, badKi, notMo, byN, flt, fst1, allW, psv, exS, exZ, exB, exK, exD3, exF, exG, exH, exC, exA1, exA2, d1, d2, d3, d4]

set_option maxRecDepth 100000 in
set_option maxHeartbeats 6400000 in
theorem head_any (w : World) (hn : Nr w) (ht : Tb w) : Calls Tryd.prog 9 #[] w fun e w' => e = .returned (.bool true) ∧ Below w.heap.size w w' := by
  have HN := Lib.hid hn
  have HT := Lib.hid ht
  have HZ0 := Lib.hid (Below.refl w.heap.size w)
  clear hn ht
  go_enter Tryd.func9, Tryd.ntmps9
  go_upto_region 2 with (first | (go_at_call 17; (with_reducible refine (example_any _).mono ?_); rintro e w1 ⟨xa, rfl, hE, hna, hbx⟩) | (refine wpList_new 34 el18 _ _ rfl rfl rfl rfl rfl rfl _ rfl (by simp [Value.oneCell']) (by simp) rfl ?_; simp only [Act.put, List.setIfInBounds_toArray, List.set_cons_succ, List.set_cons_zero]))
  refine name_wp ?_
  intro Xa hX
  have hd : Hd w Xa w1.heap.size xa exS := ⟨by rw [hX]; exact hE.then_ (wa1 _ _), by rw [hX]; exact Blk.new _ _ _, by rw [hX]; exact below_alloc (below_then HZ0.out hbx) _⟩
  have hbv : Below w.heap.size w Xa := by rw [hX]; exact below_alloc hbx _
  obtain ⟨ga, hg⟩ : ∃ g, w1.heap.size = g := ⟨_, rfl⟩
  rw [hg] at hd ⊢
  have hgl : w.heap.size ≤ ga := by rw [← hg]; exact hbx.size
  have hnx := Nat.le_trans (HZ0.out).size hna.2
  have hny := hna.2
  clear hX hE hbx hg hna
  have HD := Lib.hid hd
  have HV := Lib.hid hbv
  have HX := Lib.hid (And.intro hnx (And.intro hny hgl))
  clear hd hbv hnx hny hgl
  have lG := HD.out.G.lt
  have f4 : Xa.frozen? ⟨ga, 4, none⟩ = false := HD.out.G.frozen 4
  have c4 : Xa.cell? ⟨ga, 4, none⟩ = some (.int .i64 30) := HD.out.G.cell 4
  go_upto_region 3 with (fail)
  refine name_wp ?_
  intro Ya0 hY
  have hd : Hd w Ya0 ga xa exZ := by
    have h1 := HD.out.E
    have h2 := HD.out.G
    have h3 := HD.out.B
    refine ⟨by rw [hY]; exact ⟨h1.p.far (p := ⟨ga, 4, none⟩) (h1.p.ne_ty h2 (by decide)) _, h1.r.far (p := ⟨ga, 4, none⟩) (h1.r.ne_ty h2 (by decide)) _, h1.u.far (p := ⟨ga, 4, none⟩) (h1.u.ne_ty h2 (by decide)) _, h1.a.far (p := ⟨ga, 4, none⟩) (h1.a.ne_ty h2 (by decide)) _, h1.c.far (p := ⟨ga, 4, none⟩) (h1.c.ne_ty h2 (by decide)) _⟩, by rw [hY]; exact h2.set_ 4 _, by rw [hY]; exact h3.setCell (p := ⟨ga, 4, none⟩) (Nat.le_trans (HZ0.out).size HX.out.2.2) _⟩
  have hbv : Below w.heap.size w Ya0 := by rw [hY]; exact HV.out.setCell (p := ⟨ga, 4, none⟩) HX.out.2.2 _
  clear hY f4 c4 lG
  clear HD HV
  have HD := Lib.hid hd
  have HV := Lib.hid hbv
  clear hd hbv
  skip
  skip
  skip
  have Ka := Lib.hid HD.out
  have HZa := Lib.hid HD.out.B
  clear HD HX HV HZ0
  skip
  go_upto_region 4 with (first | (go_at_call 17; (with_reducible refine (example_any _).mono ?_); rintro e w1 ⟨xb, rfl, hE, hna, hbx⟩) | (refine wpList_new 34 el18 _ _ rfl rfl rfl rfl rfl rfl _ rfl (by simp [Value.oneCell']) (by simp) rfl ?_; simp only [Act.put, List.setIfInBounds_toArray, List.set_cons_succ, List.set_cons_zero]))
  refine name_wp ?_
  intro Xb hX
  have hd : Hd w Xb w1.heap.size xb exS := ⟨by rw [hX]; exact hE.then_ (wa1 _ _), by rw [hX]; exact Blk.new _ _ _, by rw [hX]; exact below_alloc (below_then HZa.out hbx) _⟩
  have hbv : Below Ya0.heap.size Ya0 Xb := by rw [hX]; exact below_alloc hbx _
  obtain ⟨gb, hg⟩ : ∃ g, w1.heap.size = g := ⟨_, rfl⟩
  rw [hg] at hd ⊢
  have hgl : Ya0.heap.size ≤ gb := by rw [← hg]; exact hbx.size
  have hnx := Nat.le_trans (HZa.out).size hna.2
  have hny := hna.2
  clear hX hE hbx hg hna
  have HD := Lib.hid hd
  have HV := Lib.hid hbv
  have HX := Lib.hid (And.intro hnx (And.intro hny hgl))
  clear hd hbv hnx hny hgl
  have lG := HD.out.G.lt
  have c17 : Xb.cell? ⟨gb, 17, none⟩ = some (.slice (some ⟨xb.c, 0, none⟩) 1 1) := HD.out.G.cell 17
  have lC := HD.out.E.c.lt
  have q2 : Xb.cell? ⟨xb.c, 2, none⟩ = some (.int .i64 3) := HD.out.E.c.cell 2
  have r2 : Xb.frozen? ⟨xb.c, 2, none⟩ = false := HD.out.E.c.frozen 2
  have hgc : gb ≠ xb.c := HD.out.G.ne_ty HD.out.E.c (by decide)
  go_upto_region 5 with (fail)
  refine name_wp ?_
  intro Yb0 hY
  have hd : Hd w Yb0 gb xb exB := by rw [hY]; exact (HD.out.setC (HX.out.1) 2 (.int .i64 401) (s' := exB) rfl rfl rfl)
  have hbv : Below Ya0.heap.size Ya0 Yb0 := by rw [hY]; exact (HV.out.setCell (p := ⟨xb.c, 2, none⟩) HX.out.2.1 (.int .i64 401))
  clear hY lG lC hgc c17 q2 r2
  clear HD HV
  have HD := Lib.hid hd
  have HV := Lib.hid hbv
  clear hd hbv
  skip
  skip
  skip
  have hd := Ka.out.then_ HV.out
  clear Ka
  have Ka := Lib.hid hd
  clear hd
  have Kb := Lib.hid HD.out
  have HZb := Lib.hid HD.out.B
  clear HD HX HV HZa
  skip
  go_upto_region 6 with (first | (go_at_call 17; (with_reducible refine (example_any _).mono ?_); rintro e w1 ⟨xk, rfl, hE, hna, hbx⟩) | (refine wpList_new 34 el18 _ _ rfl rfl rfl rfl rfl rfl _ rfl (by simp [Value.oneCell']) (by simp) rfl ?_; simp only [Act.put, List.setIfInBounds_toArray, List.set_cons_succ, List.set_cons_zero]))
  refine name_wp ?_
  intro Xk hX
  have hd : Hd w Xk w1.heap.size xk exS := ⟨by rw [hX]; exact hE.then_ (wa1 _ _), by rw [hX]; exact Blk.new _ _ _, by rw [hX]; exact below_alloc (below_then HZb.out hbx) _⟩
  have hbv : Below Yb0.heap.size Yb0 Xk := by rw [hX]; exact below_alloc hbx _
  obtain ⟨gk, hg⟩ : ∃ g, w1.heap.size = g := ⟨_, rfl⟩
  rw [hg] at hd ⊢
  have hgl : Yb0.heap.size ≤ gk := by rw [← hg]; exact hbx.size
  have hnx := Nat.le_trans (HZb.out).size hna.2
  have hny := hna.2
  clear hX hE hbx hg hna
  have HD := Lib.hid hd
  have HV := Lib.hid hbv
  have HX := Lib.hid (And.intro hnx (And.intro hny hgl))
  clear hd hbv hnx hny hgl
  have lG := HD.out.G.lt
  have c17 : Xk.cell? ⟨gk, 17, none⟩ = some (.slice (some ⟨xk.c, 0, none⟩) 1 1) := HD.out.G.cell 17
  have lC := HD.out.E.c.lt
  have q5 : Xk.cell? ⟨xk.c, 5, none⟩ = some (.int .i64 0) := HD.out.E.c.cell 5
  have r5 : Xk.frozen? ⟨xk.c, 5, none⟩ = false := HD.out.E.c.frozen 5
  have q6 : Xk.cell? ⟨xk.c, 6, none⟩ = some (.bool false) := HD.out.E.c.cell 6
  have r6 : Xk.frozen? ⟨xk.c, 6, none⟩ = false := HD.out.E.c.frozen 6
  have q7 : Xk.cell? ⟨xk.c, 7, none⟩ = some (.string ⟨#[]⟩) := HD.out.E.c.cell 7
  have r7 : Xk.frozen? ⟨xk.c, 7, none⟩ = false := HD.out.E.c.frozen 7
  have hgc : gk ≠ xk.c := HD.out.G.ne_ty HD.out.E.c (by decide)
  go_upto_region 7 with (fail)
  refine name_wp ?_
  intro Yk0 hY
  have hd : Hd w Yk0 gk xk exK := by rw [hY]; exact (((HD.out.setC (HX.out.1) 5 (.int .i64 2) (s' := exK1) rfl rfl rfl).setC (HX.out.1) 6 (.bool true) (s' := exK) rfl rfl rfl).setC (HX.out.1) 7 (.string ⟨#[]⟩) (s' := exK) rfl rfl rfl)
  have hbv : Below Yb0.heap.size Yb0 Yk0 := by rw [hY]; exact (((HV.out.setCell (p := ⟨xk.c, 5, none⟩) HX.out.2.1 (.int .i64 2)).setCell (p := ⟨xk.c, 6, none⟩) HX.out.2.1 (.bool true)).setCell (p := ⟨xk.c, 7, none⟩) HX.out.2.1 (.string ⟨#[]⟩))
  clear hY lG lC hgc c17 q5 r5 q6 r6 q7 r7
  clear HD HV
  have HD := Lib.hid hd
  have HV := Lib.hid hbv
  clear hd hbv
  skip
  skip
  skip
  have hd := Ka.out.then_ HV.out
  clear Ka
  have Ka := Lib.hid hd
  clear hd
  have hd := Kb.out.then_ HV.out
  clear Kb
  have Kb := Lib.hid hd
  clear hd
  have Kk := Lib.hid HD.out
  have HZk := Lib.hid HD.out.B
  clear HD HX HV HZb
  skip
  go_upto_region 8 with (first | (go_at_call 17; (with_reducible refine (example_any _).mono ?_); rintro e w1 ⟨xd, rfl, hE, hna, hbx⟩) | (refine wpList_new 34 el18 _ _ rfl rfl rfl rfl rfl rfl _ rfl (by simp [Value.oneCell']) (by simp) rfl ?_; simp only [Act.put, List.setIfInBounds_toArray, List.set_cons_succ, List.set_cons_zero]))
  refine name_wp ?_
  intro Xd hX
  have hd : Hd w Xd w1.heap.size xd exS := ⟨by rw [hX]; exact hE.then_ (wa1 _ _), by rw [hX]; exact Blk.new _ _ _, by rw [hX]; exact below_alloc (below_then HZk.out hbx) _⟩
  have hbv : Below Yk0.heap.size Yk0 Xd := by rw [hX]; exact below_alloc hbx _
  obtain ⟨gd, hg⟩ : ∃ g, w1.heap.size = g := ⟨_, rfl⟩
  rw [hg] at hd ⊢
  have hgl : Yk0.heap.size ≤ gd := by rw [← hg]; exact hbx.size
  have hnx := Nat.le_trans (HZk.out).size hna.2
  have hny := hna.2
  clear hX hE hbx hg hna
  have HD := Lib.hid hd
  have HV := Lib.hid hbv
  have HX := Lib.hid (And.intro hnx (And.intro hny hgl))
  clear hd hbv hnx hny hgl
  have lG := HD.out.G.lt
  have c17 : Xd.cell? ⟨gd, 17, none⟩ = some (.slice (some ⟨xd.c, 0, none⟩) 1 1) := HD.out.G.cell 17
  have lC := HD.out.E.c.lt
  have q21 : Xd.cell? ⟨xd.c, 21, none⟩ = some (.int .i64 (-1)) := HD.out.E.c.cell 21
  have r21 : Xd.frozen? ⟨xd.c, 21, none⟩ = false := HD.out.E.c.frozen 21
  have hgc : gd ≠ xd.c := HD.out.G.ne_ty HD.out.E.c (by decide)
  go_upto_region 9 with (fail)
  refine name_wp ?_
  intro Yd0 hY
  have hd : Hd w Yd0 gd xd exD1 := by rw [hY]; exact (HD.out.setC (HX.out.1) 21 (.int .i64 0) (s' := exD1) rfl rfl rfl)
  have hbv : Below Yk0.heap.size Yk0 Yd0 := by rw [hY]; exact (HV.out.setCell (p := ⟨xd.c, 21, none⟩) HX.out.2.1 (.int .i64 0))
  clear hY lG lC hgc c17 q21 r21
  clear HD HV
  have HD := Lib.hid hd
  have HV := Lib.hid hbv
  clear hd hbv
  skip
  skip
  have lG := HD.out.G.lt
  have c17 : Yd0.cell? ⟨gd, 17, none⟩ = some (.slice (some ⟨xd.c, 0, none⟩) 1 1) := HD.out.G.cell 17
  have lC := HD.out.E.c.lt
  have q22 : Yd0.cell? ⟨xd.c, 22, none⟩ = some (.int .i64 (-1)) := HD.out.E.c.cell 22
  have r22 : Yd0.frozen? ⟨xd.c, 22, none⟩ = false := HD.out.E.c.frozen 22
  have hgc : gd ≠ xd.c := HD.out.G.ne_ty HD.out.E.c (by decide)
  go_upto_region 10 with (fail)
  refine name_wp ?_
  intro Yd1 hY
  have hd : Hd w Yd1 gd xd exD2 := by rw [hY]; exact (HD.out.setC (HX.out.1) 22 (.int .i64 0) (s' := exD2) rfl rfl rfl)
  have hbv : Below Yk0.heap.size Yk0 Yd1 := by rw [hY]; exact (HV.out.setCell (p := ⟨xd.c, 22, none⟩) HX.out.2.1 (.int .i64 0))
  clear hY lG lC hgc c17 q22 r22
  clear HD HV
  have HD := Lib.hid hd
  have HV := Lib.hid hbv
  clear hd hbv
  skip
  skip
  have lG := HD.out.G.lt
  have c17 : Yd1.cell? ⟨gd, 17, none⟩ = some (.slice (some ⟨xd.c, 0, none⟩) 1 1) := HD.out.G.cell 17
  have lC := HD.out.E.c.lt
  have q19 : Yd1.cell? ⟨xd.c, 19, none⟩ = some (.int .i64 0) := HD.out.E.c.cell 19
  have r19 : Yd1.frozen? ⟨xd.c, 19, none⟩ = false := HD.out.E.c.frozen 19
  have q20 : Yd1.cell? ⟨xd.c, 20, none⟩ = some (.int .i64 1) := HD.out.E.c.cell 20
  have r20 : Yd1.frozen? ⟨xd.c, 20, none⟩ = false := HD.out.E.c.frozen 20
  have hgc : gd ≠ xd.c := HD.out.G.ne_ty HD.out.E.c (by decide)
  go_upto_region 11 with (fail)
  refine name_wp ?_
  intro Yd2 hY
  have hd : Hd w Yd2 gd xd exD3 := by rw [hY]; exact ((HD.out.setC (HX.out.1) 19 (.int .i64 5) (s' := { exS with cl := [{ exC with c := { exC.c with unit := 0, to_ := 0, v := (5, 1) } }] }) rfl rfl rfl).setC (HX.out.1) 20 (.int .i64 1) (s' := exD3) rfl rfl rfl)
  have hbv : Below Yk0.heap.size Yk0 Yd2 := by rw [hY]; exact ((HV.out.setCell (p := ⟨xd.c, 19, none⟩) HX.out.2.1 (.int .i64 5)).setCell (p := ⟨xd.c, 20, none⟩) HX.out.2.1 (.int .i64 1))
  clear hY lG lC hgc c17 q19 r19 q20 r20
  clear HD HV
  have HD := Lib.hid hd
  have HV := Lib.hid hbv
  clear hd hbv
  skip
  skip
  skip
  have hd := Ka.out.then_ HV.out
  clear Ka
  have Ka := Lib.hid hd
  clear hd
  have hd := Kb.out.then_ HV.out
  clear Kb
  have Kb := Lib.hid hd
  clear hd
  have hd := Kk.out.then_ HV.out
  clear Kk
  have Kk := Lib.hid hd
  clear hd
  have Kd := Lib.hid HD.out
  have HZd := Lib.hid HD.out.B
  clear HD HX HV HZk
  skip
  go_upto_region 12 with (first | (go_at_call 17; (with_reducible refine (example_any _).mono ?_); rintro e w1 ⟨xf, rfl, hE, hna, hbx⟩) | (refine wpList_new 34 el18 _ _ rfl rfl rfl rfl rfl rfl _ rfl (by simp [Value.oneCell']) (by simp) rfl ?_; simp only [Act.put, List.setIfInBounds_toArray, List.set_cons_succ, List.set_cons_zero]))
  refine name_wp ?_
  intro Xf hX
  have hd : Hd w Xf w1.heap.size xf exS := ⟨by rw [hX]; exact hE.then_ (wa1 _ _), by rw [hX]; exact Blk.new _ _ _, by rw [hX]; exact below_alloc (below_then HZd.out hbx) _⟩
  have hbv : Below Yd2.heap.size Yd2 Xf := by rw [hX]; exact below_alloc hbx _
  obtain ⟨gf, hg⟩ : ∃ g, w1.heap.size = g := ⟨_, rfl⟩
  rw [hg] at hd ⊢
  have hgl : Yd2.heap.size ≤ gf := by rw [← hg]; exact hbx.size
  have hnx := Nat.le_trans (HZd.out).size hna.2
  have hny := hna.2
  clear hX hE hbx hg hna
  have HD := Lib.hid hd
  have HV := Lib.hid hbv
  have HX := Lib.hid (And.intro hnx (And.intro hny hgl))
  clear hd hbv hnx hny hgl
  have lG := HD.out.G.lt
  have c17 : Xf.cell? ⟨gf, 17, none⟩ = some (.slice (some ⟨xf.c, 0, none⟩) 1 1) := HD.out.G.cell 17
  have lC := HD.out.E.c.lt
  have q10 : Xf.cell? ⟨xf.c, 10, none⟩ = some (.int .i64 0) := HD.out.E.c.cell 10
  have r10 : Xf.frozen? ⟨xf.c, 10, none⟩ = false := HD.out.E.c.frozen 10
  have hgc : gf ≠ xf.c := HD.out.G.ne_ty HD.out.E.c (by decide)
  go_upto_region 13 with (fail)
  refine name_wp ?_
  intro Yf0 hY
  have hd : Hd w Yf0 gf xf exF := by rw [hY]; exact (HD.out.setC (HX.out.1) 10 (.int .i64 2) (s' := exF) rfl rfl rfl)
  have hbv : Below Yd2.heap.size Yd2 Yf0 := by rw [hY]; exact (HV.out.setCell (p := ⟨xf.c, 10, none⟩) HX.out.2.1 (.int .i64 2))
  clear hY lG lC hgc c17 q10 r10
  clear HD HV
  have HD := Lib.hid hd
  have HV := Lib.hid hbv
  clear hd hbv
  skip
  skip
  skip
  have hd := Ka.out.then_ HV.out
  clear Ka
  have Ka := Lib.hid hd
  clear hd
  have hd := Kb.out.then_ HV.out
  clear Kb
  have Kb := Lib.hid hd
  clear hd
  have hd := Kk.out.then_ HV.out
  clear Kk
  have Kk := Lib.hid hd
  clear hd
  have hd := Kd.out.then_ HV.out
  clear Kd
  have Kd := Lib.hid hd
  clear hd
  have Kf := Lib.hid HD.out
  have HZf := Lib.hid HD.out.B
  clear HD HX HV HZd
  skip
  go_upto_region 14 with (first | (go_at_call 17; (with_reducible refine (example_any _).mono ?_); rintro e w1 ⟨xg, rfl, hE, hna, hbx⟩) | (refine wpList_new 34 el18 _ _ rfl rfl rfl rfl rfl rfl _ rfl (by simp [Value.oneCell']) (by simp) rfl ?_; simp only [Act.put, List.setIfInBounds_toArray, List.set_cons_succ, List.set_cons_zero]))
  refine name_wp ?_
  intro Xg hX
  have hd : Hd w Xg w1.heap.size xg exS := ⟨by rw [hX]; exact hE.then_ (wa1 _ _), by rw [hX]; exact Blk.new _ _ _, by rw [hX]; exact below_alloc (below_then HZf.out hbx) _⟩
  have hbv : Below Yf0.heap.size Yf0 Xg := by rw [hX]; exact below_alloc hbx _
  obtain ⟨gg, hg⟩ : ∃ g, w1.heap.size = g := ⟨_, rfl⟩
  rw [hg] at hd ⊢
  have hgl : Yf0.heap.size ≤ gg := by rw [← hg]; exact hbx.size
  have hnx := Nat.le_trans (HZf.out).size hna.2
  have hny := hna.2
  clear hX hE hbx hg hna
  have HD := Lib.hid hd
  have HV := Lib.hid hbv
  have HX := Lib.hid (And.intro hnx (And.intro hny hgl))
  clear hd hbv hnx hny hgl
  have lG := HD.out.G.lt
  have c17 : Xg.cell? ⟨gg, 17, none⟩ = some (.slice (some ⟨xg.c, 0, none⟩) 1 1) := HD.out.G.cell 17
  have lC := HD.out.E.c.lt
  have q10 : Xg.cell? ⟨xg.c, 10, none⟩ = some (.int .i64 0) := HD.out.E.c.cell 10
  have r10 : Xg.frozen? ⟨xg.c, 10, none⟩ = false := HD.out.E.c.frozen 10
  have hgc : gg ≠ xg.c := HD.out.G.ne_ty HD.out.E.c (by decide)
  go_upto_region 15 with (fail)
  refine name_wp ?_
  intro Yg0 hY
  have hd : Hd w Yg0 gg xg exG := by rw [hY]; exact (HD.out.setC (HX.out.1) 10 (.int .i64 1) (s' := exG) rfl rfl rfl)
  have hbv : Below Yf0.heap.size Yf0 Yg0 := by rw [hY]; exact (HV.out.setCell (p := ⟨xg.c, 10, none⟩) HX.out.2.1 (.int .i64 1))
  clear hY lG lC hgc c17 q10 r10
  clear HD HV
  have HD := Lib.hid hd
  have HV := Lib.hid hbv
  clear hd hbv
  skip
  skip
  skip
  have hd := Ka.out.then_ HV.out
  clear Ka
  have Ka := Lib.hid hd
  clear hd
  have hd := Kb.out.then_ HV.out
  clear Kb
  have Kb := Lib.hid hd
  clear hd
  have hd := Kk.out.then_ HV.out
  clear Kk
  have Kk := Lib.hid hd
  clear hd
  have hd := Kd.out.then_ HV.out
  clear Kd
  have Kd := Lib.hid hd
  clear hd
  have hd := Kf.out.then_ HV.out
  clear Kf
  have Kf := Lib.hid hd
  clear hd
  have Kg := Lib.hid HD.out
  have HZg := Lib.hid HD.out.B
  clear HD HX HV HZf
  skip
  go_upto_region 16 with (first | (go_at_call 17; (with_reducible refine (example_any _).mono ?_); rintro e w1 ⟨xh, rfl, hE, hna, hbx⟩) | (refine wpList_new 34 el18 _ _ rfl rfl rfl rfl rfl rfl _ rfl (by simp [Value.oneCell']) (by simp) rfl ?_; simp only [Act.put, List.setIfInBounds_toArray, List.set_cons_succ, List.set_cons_zero]))
  refine name_wp ?_
  intro Xh hX
  have hd : Hd w Xh w1.heap.size xh exS := ⟨by rw [hX]; exact hE.then_ (wa1 _ _), by rw [hX]; exact Blk.new _ _ _, by rw [hX]; exact below_alloc (below_then HZg.out hbx) _⟩
  have hbv : Below Yg0.heap.size Yg0 Xh := by rw [hX]; exact below_alloc hbx _
  obtain ⟨gh, hg⟩ : ∃ g, w1.heap.size = g := ⟨_, rfl⟩
  rw [hg] at hd ⊢
  have hgl : Yg0.heap.size ≤ gh := by rw [← hg]; exact hbx.size
  have hnx := Nat.le_trans (HZg.out).size hna.1
  have hny := hna.1
  clear hX hE hbx hg hna
  have HD := Lib.hid hd
  have HV := Lib.hid hbv
  have HX := Lib.hid (And.intro hnx (And.intro hny hgl))
  clear hd hbv hnx hny hgl
  have lG := HD.out.G.lt
  have c16 : Xh.cell? ⟨gh, 16, none⟩ = some (.slice (some ⟨xh.a, 0, none⟩) 2 2) := HD.out.G.cell 16
  have lC := HD.out.E.a.lt
  have q15 : Xh.cell? ⟨xh.a, 15, none⟩ = some (.int .i64 (-1)) := HD.out.E.a.cell 15
  have r15 : Xh.frozen? ⟨xh.a, 15, none⟩ = false := HD.out.E.a.frozen 15
  have hgc : gh ≠ xh.a := HD.out.G.ne_ty HD.out.E.a (by decide)
  go_upto_region 17 with (fail)
  refine name_wp ?_
  intro Yh0 hY
  have hd : Hd w Yh0 gh xh exH1 := by rw [hY]; exact (HD.out.setA (HX.out.1) 15 (.int .i64 0) (s' := exH1) rfl rfl rfl)
  have hbv : Below Yg0.heap.size Yg0 Yh0 := by rw [hY]; exact (HV.out.setCell (p := ⟨xh.a, 15, none⟩) HX.out.2.1 (.int .i64 0))
  clear hY lG lC hgc c16 q15 r15
  clear HD HV
  have HD := Lib.hid hd
  have HV := Lib.hid hbv
  clear hd hbv
  skip
  skip
  have lG := HD.out.G.lt
  have c16 : Yh0.cell? ⟨gh, 16, none⟩ = some (.slice (some ⟨xh.a, 0, none⟩) 2 2) := HD.out.G.cell 16
  have lC := HD.out.E.a.lt
  have q16 : Yh0.cell? ⟨xh.a, 16, none⟩ = some (.int .i64 0) := HD.out.E.a.cell 16
  have r16 : Yh0.frozen? ⟨xh.a, 16, none⟩ = false := HD.out.E.a.frozen 16
  have q17 : Yh0.cell? ⟨xh.a, 17, none⟩ = some (.int .i64 1) := HD.out.E.a.cell 17
  have r17 : Yh0.frozen? ⟨xh.a, 17, none⟩ = false := HD.out.E.a.frozen 17
  have hgc : gh ≠ xh.a := HD.out.G.ne_ty HD.out.E.a (by decide)
  go_upto_region 18 with (fail)
  refine name_wp ?_
  intro Yh1 hY
  have hd : Hd w Yh1 gh xh exH := by rw [hY]; exact ((HD.out.setA (HX.out.1) 16 (.int .i64 1) (s' := exH) rfl rfl rfl).setA (HX.out.1) 17 (.int .i64 1) (s' := exH) rfl rfl rfl)
  have hbv : Below Yg0.heap.size Yg0 Yh1 := by rw [hY]; exact ((HV.out.setCell (p := ⟨xh.a, 16, none⟩) HX.out.2.1 (.int .i64 1)).setCell (p := ⟨xh.a, 17, none⟩) HX.out.2.1 (.int .i64 1))
  clear hY lG lC hgc c16 q16 r16 q17 r17
  clear HD HV
  have HD := Lib.hid hd
  have HV := Lib.hid hbv
  clear hd hbv
  skip
  skip
  skip
  have hd := Ka.out.then_ HV.out
  clear Ka
  have Ka := Lib.hid hd
  clear hd
  have hd := Kb.out.then_ HV.out
  clear Kb
  have Kb := Lib.hid hd
  clear hd
  have hd := Kk.out.then_ HV.out
  clear Kk
  have Kk := Lib.hid hd
  clear hd
  have hd := Kd.out.then_ HV.out
  clear Kd
  have Kd := Lib.hid hd
  clear hd
  have hd := Kf.out.then_ HV.out
  clear Kf
  have Kf := Lib.hid hd
  clear hd
  have hd := Kg.out.then_ HV.out
  clear Kg
  have Kg := Lib.hid hd
  clear hd
  have Kh := Lib.hid HD.out
  have HZh := Lib.hid HD.out.B
  clear HD HX HV HZg
  skip
  have Ca : Hid (∀ V : World, Below Yh1.heap.size Yh1 V → Calls Tryd.prog 18 #[.agg (syA exZ (xsM xa exZ)), .int .i64 2, .int .i64 (-1)] V fun r w' => r = .returned (.bool true) ∧ Below V.heap.size V w') := fun V hV => by
    have h := one_any exZ (xsM xa exZ) 2 (-1) V (HN.out.below (HZh.out.trans (hV.mono HZh.out.size))) (HT.out.below (HZh.out.trans (hV.mono HZh.out.size))) ((Ka.out.then_ hV).E.smb okS.2.1) (by rw [chkS.2.1]; simp)
    rw [chkS.2.1] at h
    simpa using h
  have Ga := Ka.out.G
  have la := Ga.lt
  have Cb : Hid (∀ V : World, Below Yh1.heap.size Yh1 V → Calls Tryd.prog 18 #[.agg (syA exB (xsM xb exB)), .int .i64 2, .int .i64 (70)] V fun r w' => r = .returned (.bool true) ∧ Below V.heap.size V w') := fun V hV => by
    have h := one_any exB (xsM xb exB) 2 (70) V (HN.out.below (HZh.out.trans (hV.mono HZh.out.size))) (HT.out.below (HZh.out.trans (hV.mono HZh.out.size))) ((Kb.out.then_ hV).E.smb okS.2.2.1) (by rw [chkS.2.2.1]; simp)
    rw [chkS.2.2.1] at h
    simpa using h
  have Gb := Kb.out.G
  have lb := Gb.lt
  have Ck : Hid (∀ V : World, Below Yh1.heap.size Yh1 V → Calls Tryd.prog 18 #[.agg (syA exK (xsM xk exK)), .int .i64 10, .int .i64 (70)] V fun r w' => r = .returned (.bool true) ∧ Below V.heap.size V w') := fun V hV => by
    have h := one_any exK (xsM xk exK) 10 (70) V (HN.out.below (HZh.out.trans (hV.mono HZh.out.size))) (HT.out.below (HZh.out.trans (hV.mono HZh.out.size))) ((Kk.out.then_ hV).E.smb okS.2.2.2.1) (by rw [chkS.2.2.2.1]; simp)
    rw [chkS.2.2.2.1] at h
    simpa using h
  have Gk := Kk.out.G
  have lk := Gk.lt
  have Cd : Hid (∀ V : World, Below Yh1.heap.size Yh1 V → Calls Tryd.prog 18 #[.agg (syA exD3 (xsM xd exD3)), .int .i64 11, .int .i64 (70)] V fun r w' => r = .returned (.bool true) ∧ Below V.heap.size V w') := fun V hV => by
    have h := one_any exD3 (xsM xd exD3) 11 (70) V (HN.out.below (HZh.out.trans (hV.mono HZh.out.size))) (HT.out.below (HZh.out.trans (hV.mono HZh.out.size))) ((Kd.out.then_ hV).E.smb okS.2.2.2.2.1) (by rw [chkS.2.2.2.2.1]; simp)
    rw [chkS.2.2.2.2.1] at h
    simpa using h
  have Gd := Kd.out.G
  have ld := Gd.lt
  have Cf : Hid (∀ V : World, Below Yh1.heap.size Yh1 V → Calls Tryd.prog 18 #[.agg (syA exF (xsM xf exF)), .int .i64 1, .int .i64 (-1)] V fun r w' => r = .returned (.bool true) ∧ Below V.heap.size V w') := fun V hV => by
    have h := one_any exF (xsM xf exF) 1 (-1) V (HN.out.below (HZh.out.trans (hV.mono HZh.out.size))) (HT.out.below (HZh.out.trans (hV.mono HZh.out.size))) ((Kf.out.then_ hV).E.smb okS.2.2.2.2.2.1) (by rw [chkS.2.2.2.2.2.1]; simp)
    rw [chkS.2.2.2.2.2.1] at h
    simpa using h
  have Gf := Kf.out.G
  have lf := Gf.lt
  have Cg : Hid (∀ V : World, Below Yh1.heap.size Yh1 V → Calls Tryd.prog 18 #[.agg (syA exG (xsM xg exG)), .int .i64 10, .int .i64 (70)] V fun r w' => r = .returned (.bool true) ∧ Below V.heap.size V w') := fun V hV => by
    have h := one_any exG (xsM xg exG) 10 (70) V (HN.out.below (HZh.out.trans (hV.mono HZh.out.size))) (HT.out.below (HZh.out.trans (hV.mono HZh.out.size))) ((Kg.out.then_ hV).E.smb okS.2.2.2.2.2.2.1) (by rw [chkS.2.2.2.2.2.2.1]; simp)
    rw [chkS.2.2.2.2.2.2.1] at h
    simpa using h
  have Gg := Kg.out.G
  have lg := Gg.lt
  have Ch : Hid (∀ V : World, Below Yh1.heap.size Yh1 V → Calls Tryd.prog 18 #[.agg (syA exH (xsM xh exH)), .int .i64 10, .int .i64 (60)] V fun r w' => r = .returned (.bool true) ∧ Below V.heap.size V w') := fun V hV => by
    have h := one_any exH (xsM xh exH) 10 (60) V (HN.out.below (HZh.out.trans (hV.mono HZh.out.size))) (HT.out.below (HZh.out.trans (hV.mono HZh.out.size))) ((Kh.out.then_ hV).E.smb okS.2.2.2.2.2.2.2) (by rw [chkS.2.2.2.2.2.2.2]; simp)
    rw [chkS.2.2.2.2.2.2.2] at h
    simpa using h
  have Gh := Kh.out.G
  have lh := Gh.lt
  have CE : Hid (∀ (x : Xs) (V : World), Below Yh1.heap.size Yh1 V → Exb V x exS → Calls Tryd.prog 11 #[.agg (syA exS (xsM x exS))] V fun e w' => (∃ A c, e = .returned (.slice A 0 c)) ∧ Below V.heap.size V w') := fun x V hV hE => (check_any exS (xsM x exS) V (HN.out.below (HZh.out.trans (hV.mono HZh.out.size))) (HT.out.below (HZh.out.trans (hV.mono HZh.out.size))) (hE.smb okS.1)).mono fun e w' h => by
    obtain ⟨v, rfl, hb, hO⟩ := h
    rw [chkS.1] at hO
    obtain ⟨A, c, rfl, _⟩ := hO.seg encF_len
    exact ⟨⟨A, c, rfl⟩, hb⟩
  have HZZ := Lib.hid (Below.refl Yh1.heap.size Yh1)
  clear Ka Kb Kk Kd Kf Kg Kh
  go_wp2_with (first | (go_at_call 18; (first | (with_reducible refine (Ca.out _ (by (repeat (first | with_reducible assumption | with_reducible exact Below.refl _ _ | with_reducible refine below_drewN ?_ _ | with_reducible refine Below.drew ?_ | with_reducible refine below_alloc ?_ _ | with_reducible refine Below.setCell ?_ (by first | omega | (simp; done) | (simp; omega)) _ | with_reducible refine below_then ?_ (by with_reducible assumption) | (refine below_then (a := World.drew _) ?_ (by with_reducible assumption)))))).mono ?_) | (with_reducible refine (Cb.out _ (by (repeat (first | with_reducible assumption | with_reducible exact Below.refl _ _ | with_reducible refine below_drewN ?_ _ | with_reducible refine Below.drew ?_ | with_reducible refine below_alloc ?_ _ | with_reducible refine Below.setCell ?_ (by first | omega | (simp; done) | (simp; omega)) _ | with_reducible refine below_then ?_ (by with_reducible assumption) | (refine below_then (a := World.drew _) ?_ (by with_reducible assumption)))))).mono ?_) | (with_reducible refine (Ck.out _ (by (repeat (first | with_reducible assumption | with_reducible exact Below.refl _ _ | with_reducible refine below_drewN ?_ _ | with_reducible refine Below.drew ?_ | with_reducible refine below_alloc ?_ _ | with_reducible refine Below.setCell ?_ (by first | omega | (simp; done) | (simp; omega)) _ | with_reducible refine below_then ?_ (by with_reducible assumption) | (refine below_then (a := World.drew _) ?_ (by with_reducible assumption)))))).mono ?_) | (with_reducible refine (Cd.out _ (by (repeat (first | with_reducible assumption | with_reducible exact Below.refl _ _ | with_reducible refine below_drewN ?_ _ | with_reducible refine Below.drew ?_ | with_reducible refine below_alloc ?_ _ | with_reducible refine Below.setCell ?_ (by first | omega | (simp; done) | (simp; omega)) _ | with_reducible refine below_then ?_ (by with_reducible assumption) | (refine below_then (a := World.drew _) ?_ (by with_reducible assumption)))))).mono ?_) | (with_reducible refine (Cf.out _ (by (repeat (first | with_reducible assumption | with_reducible exact Below.refl _ _ | with_reducible refine below_drewN ?_ _ | with_reducible refine Below.drew ?_ | with_reducible refine below_alloc ?_ _ | with_reducible refine Below.setCell ?_ (by first | omega | (simp; done) | (simp; omega)) _ | with_reducible refine below_then ?_ (by with_reducible assumption) | (refine below_then (a := World.drew _) ?_ (by with_reducible assumption)))))).mono ?_) | (with_reducible refine (Cg.out _ (by (repeat (first | with_reducible assumption | with_reducible exact Below.refl _ _ | with_reducible refine below_drewN ?_ _ | with_reducible refine Below.drew ?_ | with_reducible refine below_alloc ?_ _ | with_reducible refine Below.setCell ?_ (by first | omega | (simp; done) | (simp; omega)) _ | with_reducible refine below_then ?_ (by with_reducible assumption) | (refine below_then (a := World.drew _) ?_ (by with_reducible assumption)))))).mono ?_) | (with_reducible refine (Ch.out _ (by (repeat (first | with_reducible assumption | with_reducible exact Below.refl _ _ | with_reducible refine below_drewN ?_ _ | with_reducible refine Below.drew ?_ | with_reducible refine below_alloc ?_ _ | with_reducible refine Below.setCell ?_ (by first | omega | (simp; done) | (simp; omega)) _ | with_reducible refine below_then ?_ (by with_reducible assumption) | (refine below_then (a := World.drew _) ?_ (by with_reducible assumption)))))).mono ?_)); rintro e w1 ⟨rfl, hb2⟩) | (go_at_call 17; (with_reducible refine (example_any _).mono ?_); rintro e w1 ⟨x0, rfl, hE0, _, hb1⟩) | (go_at_call 11; (with_reducible refine (CE.out _ _ hb1 hE0).mono ?_); rintro e w1 ⟨⟨A0, c0, rfl⟩, hb2⟩) | (refine wpList_row_w (by rfl) 34 _ rfl ga rfl 34 (syA exZ (xsM xa exZ)) (by (repeat (first | with_reducible assumption | with_reducible exact Blk.new _ _ _ | with_reducible refine Blk.drew ?_ | with_reducible refine Blk.alloc ?_ _ | with_reducible refine Blk.drewN ?_ _ | with_reducible apply Blk.setT0 | with_reducible apply Blk.setT1 | with_reducible refine Blk.far ?_ (by first | (simp; done) | omega | (simp; omega)) _ | with_reducible refine Blk.then_ ?_ (by with_reducible assumption)))) ⟨_, Tryd.underlying34⟩ (by kernel_rfl) ?_; simp only [Act.put, List.setIfInBounds_toArray, List.set_cons_succ, List.set_cons_zero]) | (refine wpList_row_w (by rfl) 34 _ rfl gb rfl 34 (syA exB (xsM xb exB)) (by (repeat (first | with_reducible assumption | with_reducible exact Blk.new _ _ _ | with_reducible refine Blk.drew ?_ | with_reducible refine Blk.alloc ?_ _ | with_reducible refine Blk.drewN ?_ _ | with_reducible apply Blk.setT0 | with_reducible apply Blk.setT1 | with_reducible refine Blk.far ?_ (by first | (simp; done) | omega | (simp; omega)) _ | with_reducible refine Blk.then_ ?_ (by with_reducible assumption)))) ⟨_, Tryd.underlying34⟩ (by kernel_rfl) ?_; simp only [Act.put, List.setIfInBounds_toArray, List.set_cons_succ, List.set_cons_zero]) | (refine wpList_row_w (by rfl) 34 _ rfl gk rfl 34 (syA exK (xsM xk exK)) (by (repeat (first | with_reducible assumption | with_reducible exact Blk.new _ _ _ | with_reducible refine Blk.drew ?_ | with_reducible refine Blk.alloc ?_ _ | with_reducible refine Blk.drewN ?_ _ | with_reducible apply Blk.setT0 | with_reducible apply Blk.setT1 | with_reducible refine Blk.far ?_ (by first | (simp; done) | omega | (simp; omega)) _ | with_reducible refine Blk.then_ ?_ (by with_reducible assumption)))) ⟨_, Tryd.underlying34⟩ (by kernel_rfl) ?_; simp only [Act.put, List.setIfInBounds_toArray, List.set_cons_succ, List.set_cons_zero]) | (refine wpList_row_w (by rfl) 34 _ rfl gd rfl 34 (syA exD3 (xsM xd exD3)) (by (repeat (first | with_reducible assumption | with_reducible exact Blk.new _ _ _ | with_reducible refine Blk.drew ?_ | with_reducible refine Blk.alloc ?_ _ | with_reducible refine Blk.drewN ?_ _ | with_reducible apply Blk.setT0 | with_reducible apply Blk.setT1 | with_reducible refine Blk.far ?_ (by first | (simp; done) | omega | (simp; omega)) _ | with_reducible refine Blk.then_ ?_ (by with_reducible assumption)))) ⟨_, Tryd.underlying34⟩ (by kernel_rfl) ?_; simp only [Act.put, List.setIfInBounds_toArray, List.set_cons_succ, List.set_cons_zero]) | (refine wpList_row_w (by rfl) 34 _ rfl gf rfl 34 (syA exF (xsM xf exF)) (by (repeat (first | with_reducible assumption | with_reducible exact Blk.new _ _ _ | with_reducible refine Blk.drew ?_ | with_reducible refine Blk.alloc ?_ _ | with_reducible refine Blk.drewN ?_ _ | with_reducible apply Blk.setT0 | with_reducible apply Blk.setT1 | with_reducible refine Blk.far ?_ (by first | (simp; done) | omega | (simp; omega)) _ | with_reducible refine Blk.then_ ?_ (by with_reducible assumption)))) ⟨_, Tryd.underlying34⟩ (by kernel_rfl) ?_; simp only [Act.put, List.setIfInBounds_toArray, List.set_cons_succ, List.set_cons_zero]) | (refine wpList_row_w (by rfl) 34 _ rfl gg rfl 34 (syA exG (xsM xg exG)) (by (repeat (first | with_reducible assumption | with_reducible exact Blk.new _ _ _ | with_reducible refine Blk.drew ?_ | with_reducible refine Blk.alloc ?_ _ | with_reducible refine Blk.drewN ?_ _ | with_reducible apply Blk.setT0 | with_reducible apply Blk.setT1 | with_reducible refine Blk.far ?_ (by first | (simp; done) | omega | (simp; omega)) _ | with_reducible refine Blk.then_ ?_ (by with_reducible assumption)))) ⟨_, Tryd.underlying34⟩ (by kernel_rfl) ?_; simp only [Act.put, List.setIfInBounds_toArray, List.set_cons_succ, List.set_cons_zero]) | (refine wpList_row_w (by rfl) 34 _ rfl gh rfl 34 (syA exH (xsM xh exH)) (by (repeat (first | with_reducible assumption | with_reducible exact Blk.new _ _ _ | with_reducible refine Blk.drew ?_ | with_reducible refine Blk.alloc ?_ _ | with_reducible refine Blk.drewN ?_ _ | with_reducible apply Blk.setT0 | with_reducible apply Blk.setT1 | with_reducible refine Blk.far ?_ (by first | (simp; done) | omega | (simp; omega)) _ | with_reducible refine Blk.then_ ?_ (by with_reducible assumption)))) ⟨_, Tryd.underlying34⟩ (by kernel_rfl) ?_; simp only [Act.put, List.setIfInBounds_toArray, List.set_cons_succ, List.set_cons_zero]))
  go_ret
  exact ⟨rfl, HZh.out.trans (Below.mono (by (repeat (first | with_reducible assumption | with_reducible exact Below.refl _ _ | with_reducible refine below_drewN ?_ _ | with_reducible refine Below.drew ?_ | with_reducible refine below_alloc ?_ _ | with_reducible refine Below.setCell ?_ (by first | omega | (simp; done) | (simp; omega)) _ | with_reducible refine below_then ?_ (by with_reducible assumption) | (refine below_then (a := World.drew _) ?_ (by with_reducible assumption))))) HZh.out.size)⟩
end Go.Proofs.YtcfjehohemdanaaDoor
