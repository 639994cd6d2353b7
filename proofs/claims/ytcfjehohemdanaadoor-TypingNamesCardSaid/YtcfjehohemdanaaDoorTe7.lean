/- The walk of TypingNames. -/
import Derived.Test.YtcfjehohemdanaaDoorTe3
namespace Go.Proofs.YtcfjehohemdanaaDoor
open Go.RowKit Go.Sort

/-- the first k elements changed -/
def upd {α : Type} (f : α → α) (k : Nat) (l : List α) : List α := l.mapIdx fun i x => if i < k then f x else x
section
variable {α : Type} {f : α → α} {l : List α}
theorem upd_len (k : Nat) : (upd f k l).length = l.length := by simp [upd]
theorem upd0 : upd f 0 l = l := by apply List.ext_getElem?; intro i; simp [upd, List.getElem?_mapIdx]
theorem upd_get {k : Nat} {x : α} (h : l[k]? = some x) : (upd f k l)[k]? = some x := by simp [upd, h]
theorem upd_set {k : Nat} {x : α} (h : l[k]? = some x) : (upd f k l).set k (f x) = upd f (k + 1) l := by
  apply List.ext_getElem?
  intro i
  have hk := (List.getElem?_eq_some_iff.1 h).1
  rw [List.getElem?_set]
  by_cases hi : k = i
  · subst hi
    simp only [if_true, upd, List.length_mapIdx, hk, List.getElem?_mapIdx, h, Option.map_some, Nat.lt_succ_self]
  · simp only [hi, if_false, upd, List.getElem?_mapIdx]
    cases l[i]? with
    | none => rfl
    | some x => simp only [Option.map_some]; congr 1; split <;> split <;> first | rfl | omega
theorem upd_all : upd f l.length l = l.map f := by
  apply List.ext_getElem?
  intro i
  simp only [upd, List.getElem?_mapIdx, List.getElem?_map]
  cases h : l[i]? with
  | none => rfl
  | some x =>
    have := (List.getElem?_eq_some_iff.1 h).1
    simp [this]
end
theorem upd_rep {α β : Type} (l : List α) (t e : β) : upd (fun _ => t) l.length (List.replicate l.length e) = l.map fun _ => t := by
  have h := upd_all (f := fun _ : β => t) (l := List.replicate l.length e)
  rw [List.length_replicate] at h
  rw [h]
  apply List.ext_getElem
  · simp
  · intro i h1 h2; simp
theorem yieldsIf_row {P : Program} {ops : Array Oper} {S : World → Prop} {op : Oper} {a : Act} (hw : Region.wanted op (yielded ops a.tmps) = true) (ty : TypeId) (x : Operand) (ho : op.op = .load ty x) (g : Nat) (hx : a.eval x = .pointer (some ⟨g, 0, none⟩)) (t : TypeId) (cs : Array Value) (hS : ∀ w, S w → Blk w g t cs)
    (hu : ∃ fs, P.underlying ty = some (.struct fs)) (hi : (P.info? ty).map (·.size) = some cs.size) : YieldsIf P ops S op (.agg cs) a := by
  obtain ⟨fs, hu⟩ := hu
  refine .inl ⟨hw, fun w hs => ?_⟩
  have h1 := run_loadVar_row w g t ty cs (0, 0) _ (hS w hs) hu rfl hi
  unfold execOp
  simp only [ho, hx, Instr.loadAt, Instr.sureAddr, Sem.run_bind, Sem.run_pure, Result.andThen_ok]
  rw [h1]
  rfl
theorem arr18 {V : Array Value} (h : V.size = 18) : ∃ x0 x1 x2 x3 x4 x5 x6 x7 x8 x9 x10 x11 x12 x13 x14 x15 x16 x17, V = #[x0, x1, x2, x3, x4, x5, x6, x7, x8, x9, x10, x11, x12, x13, x14, x15, x16, x17] := by
  obtain ⟨l⟩ := V
  match l, h with
  | [x0, x1, x2, x3, x4, x5, x6, x7, x8, x9, x10, x11, x12, x13, x14, x15, x16, x17], _ => exact ⟨x0, x1, x2, x3, x4, x5, x6, x7, x8, x9, x10, x11, x12, x13, x14, x15, x16, x17, rfl⟩
theorem encS_len (x : ByteArray) : (encS x).length = 1 := rfl
theorem encRo_len (x : Ro) : (encRo x).length = 2 := rfl
theorem encRo_one (x : Ro) : ∀ u ∈ encRo x, u.oneCell' = true := by intro u hu; simp [encRo] at hu; rcases hu with rfl | rfl <;> rfl
theorem made_flat (n : Nat) : (madeCells #[.string ⟨#[]⟩] (n * 1)).toList = (List.replicate n (⟨#[]⟩ : ByteArray)).flatMap encS := by
  rw [Nat.mul_one]
  apply List.ext_getElem
  · simp [madeCells, encS]
  · intro i h1 h2
    have e : (List.replicate n (⟨#[]⟩ : ByteArray)).flatMap encS = List.replicate n (Value.string ⟨#[]⟩) := by
      clear h1 h2
      induction n with
      | zero => rfl
      | succ n ih => rw [List.replicate_succ, List.flatMap_cons, ih, List.replicate_succ]; rfl
    simp only [e, List.getElem_replicate]
    simp [madeCells, Nat.mod_one]
theorem setCells_one (w : World) (g o : Nat) (v : Value) : w.setCell ⟨g, o, none⟩ v = w.setCells g o [v] := rfl
abbrev naM (m : Sm) (gp kp gr kr ga ka gc kc : Nat) (cs : List Cm) : Sm := { m with p := some ⟨gp, 0, none⟩, pc := kp, r := some ⟨gr, 0, none⟩, rc := kr, a := some ⟨ga, 0, none⟩, ac := ka, c := some ⟨gc, 0, none⟩, cc := kc, cs := cs }
structure Nms (w0 : World) (s : Sy) (m : Sm) (t : ByteArray) (b1 g gp kp gr kr ga ka gc kc : Nat) (W : World) (xp : List ByteArray) (xr : List Ro) (xa : List As) (xc : List Cm) : Prop where
  S : Blk W b1 34 (syA s m)
  O : Blk W g 34 (syA { s with nm := t } (naM m gp kp gr kr ga ka gc kc m.cs))
  P : Own W w0.heap.size 9 1 encS (.slice (some ⟨gp, 0, none⟩) s.par.length kp) xp
  R : Own W w0.heap.size 56 2 encRo (.slice (some ⟨gr, 0, none⟩) s.ro.length kr) xr
  A : Own W w0.heap.size 60 9 encAs (.slice (some ⟨ga, 0, none⟩) s.ac.length ka) xa
  C : Own W w0.heap.size 51 24 encCl (.slice (some ⟨gc, 0, none⟩) s.cl.length kc) xc
  B : Below w0.heap.size w0 W
  n : w0.heap.size ≤ b1 ∧ b1 < g ∧ g < gp ∧ gp < gr ∧ gr < ga ∧ ga < gc
  lp : xp.length = s.par.length
  lr : xr.length = s.ro.length
  la : xa.length = s.ac.length
  lc : xc.length = s.cl.length
section
variable {w0 : World} {s : Sy} {m : Sm} {t : ByteArray} {b1 g gp kp gr kr ga ka gc kc : Nat} {W W' : World} {xp : List ByteArray} {xr : List Ro} {xa : List As} {xc : List Cm}
theorem Nms.then_ (h : Nms w0 s m t b1 g gp kp gr kr ga ka gc kc W xp xr xa xc) (hb : Below W.heap.size W W') : Nms w0 s m t b1 g gp kp gr kr ga ka gc kc W' xp xr xa xc :=
  ⟨h.S.then_ hb, h.O.then_ hb, h.P.below hb, h.R.below hb, h.A.below hb, h.C.below hb, below_then h.B hb, h.n, h.lp, h.lr, h.la, h.lc⟩
theorem Nms.setP (h : Nms w0 s m t b1 g gp kp gr kr ga ka gc kc W xp xr xa xc) {k o : Nat} {x y : ByteArray} (hx : xp[k]? = some x) (v : Value) (hy : encS y = (encS x).set 0 v) (ho : o = k * 1 + 0) : Nms w0 s m t b1 g gp kp gr kr ga ka gc kc (W.setCell ⟨gp, o, none⟩ v) (xp.set k y) xr xa xc := by
  have hq := h.P.setAt encS_len h.lp (j := 0) hx (by omega) hy
  rw [← ho] at hq
  have hn := h.n
  have s1 := h.S.far (p := ⟨gp, o, none⟩) (show b1 ≠ gp by omega) v
  have s2 := h.O.far (p := ⟨gp, o, none⟩) (show g ≠ gp by omega) v
  have s3 := h.B.setCell (p := ⟨gp, o, none⟩) (show w0.heap.size ≤ gp by omega) v
  exact ⟨s1, s2, hq, h.R.setNe (p := ⟨gp, o, none⟩) (by intro j hj; cases hj; show gr ≠ gp; have := h.n; omega) _, h.A.setNe (p := ⟨gp, o, none⟩) (by intro j hj; cases hj; show ga ≠ gp; have := h.n; omega) _, h.C.setNe (p := ⟨gp, o, none⟩) (by intro j hj; cases hj; show gc ≠ gp; have := h.n; omega) _, s3, hn, by rw [List.length_set]; exact h.lp, h.lr, h.la, h.lc⟩
theorem Nms.setR (h : Nms w0 s m t b1 g gp kp gr kr ga ka gc kc W xp xr xa xc) {k o : Nat} {x y : Ro} (hx : xr[k]? = some x) (v : Value) (hy : encRo y = (encRo x).set 0 v) (ho : o = k * 2 + 0) : Nms w0 s m t b1 g gp kp gr kr ga ka gc kc (W.setCell ⟨gr, o, none⟩ v) xp (xr.set k y) xa xc := by
  have hq := h.R.setAt encRo_len h.lr (j := 0) hx (by omega) hy
  rw [← ho] at hq
  have hn := h.n
  have s1 := h.S.far (p := ⟨gr, o, none⟩) (show b1 ≠ gr by omega) v
  have s2 := h.O.far (p := ⟨gr, o, none⟩) (show g ≠ gr by omega) v
  have s3 := h.B.setCell (p := ⟨gr, o, none⟩) (show w0.heap.size ≤ gr by omega) v
  exact ⟨s1, s2, h.P.setNe (p := ⟨gr, o, none⟩) (by intro j hj; cases hj; show gp ≠ gr; have := h.n; omega) _, hq, h.A.setNe (p := ⟨gr, o, none⟩) (by intro j hj; cases hj; show ga ≠ gr; have := h.n; omega) _, h.C.setNe (p := ⟨gr, o, none⟩) (by intro j hj; cases hj; show gc ≠ gr; have := h.n; omega) _, s3, hn, h.lp, by rw [List.length_set]; exact h.lr, h.la, h.lc⟩
theorem Nms.setA (h : Nms w0 s m t b1 g gp kp gr kr ga ka gc kc W xp xr xa xc) {k o : Nat} {x y : As} (hx : xa[k]? = some x) (v : Value) (hy : encAs y = (encAs x).set 0 v) (ho : o = k * 9 + 0) : Nms w0 s m t b1 g gp kp gr kr ga ka gc kc (W.setCell ⟨ga, o, none⟩ v) xp xr (xa.set k y) xc := by
  have hq := h.A.setAt encAs_len h.la (j := 0) hx (by omega) hy
  rw [← ho] at hq
  have hn := h.n
  have s1 := h.S.far (p := ⟨ga, o, none⟩) (show b1 ≠ ga by omega) v
  have s2 := h.O.far (p := ⟨ga, o, none⟩) (show g ≠ ga by omega) v
  have s3 := h.B.setCell (p := ⟨ga, o, none⟩) (show w0.heap.size ≤ ga by omega) v
  exact ⟨s1, s2, h.P.setNe (p := ⟨ga, o, none⟩) (by intro j hj; cases hj; show gp ≠ ga; have := h.n; omega) _, h.R.setNe (p := ⟨ga, o, none⟩) (by intro j hj; cases hj; show gr ≠ ga; have := h.n; omega) _, hq, h.C.setNe (p := ⟨ga, o, none⟩) (by intro j hj; cases hj; show gc ≠ ga; have := h.n; omega) _, s3, hn, h.lp, h.lr, by rw [List.length_set]; exact h.la, h.lc⟩
theorem Nms.setC (h : Nms w0 s m t b1 g gp kp gr kr ga ka gc kc W xp xr xa xc) {k o : Nat} {x y : Cm} (hx : xc[k]? = some x) (v : Value) (hy : encCl y = (encCl x).set 0 v) (ho : o = k * 24 + 0) : Nms w0 s m t b1 g gp kp gr kr ga ka gc kc (W.setCell ⟨gc, o, none⟩ v) xp xr xa (xc.set k y) := by
  have hq := h.C.setAt encCl_len h.lc (j := 0) hx (by omega) hy
  rw [← ho] at hq
  have hn := h.n
  have s1 := h.S.far (p := ⟨gc, o, none⟩) (show b1 ≠ gc by omega) v
  have s2 := h.O.far (p := ⟨gc, o, none⟩) (show g ≠ gc by omega) v
  have s3 := h.B.setCell (p := ⟨gc, o, none⟩) (show w0.heap.size ≤ gc by omega) v
  exact ⟨s1, s2, h.P.setNe (p := ⟨gc, o, none⟩) (by intro j hj; cases hj; show gp ≠ gc; have := h.n; omega) _, h.R.setNe (p := ⟨gc, o, none⟩) (by intro j hj; cases hj; show gr ≠ gc; have := h.n; omega) _, h.A.setNe (p := ⟨gc, o, none⟩) (by intro j hj; cases hj; show ga ≠ gc; have := h.n; omega) _, hq, s3, hn, h.lp, h.lr, h.la, by rw [List.length_set]; exact h.lc⟩
theorem Nms.smb (h : Nms w0 s m t b1 g gp kp gr kr ga ka gc kc W (s.par.map fun _ => t) (s.ro.map fun r => { r with nm := t }) (s.ac.map fun a => { a with nm := t }) (m.cs.map fun c => { c with c := { c.c with nm := t } })) (hm : Smb w0 s m) :
    Smb W (s.nam t) (naM m gp kp gr kr ga ka gc kc (m.cs.map fun c => { c with c := { c.c with nm := t } })) := by
  have h0 := hm.then_ h.B
  have e : (m.cs.map fun c => ({ c with c := { c.c with nm := t } } : Cm)).map (·.c) = (s.nam t).cl := by
    rw [List.map_map]
    show m.cs.map _ = s.cl.map _
    rw [← hm.y.e, List.map_map]
    rfl
  refine ⟨⟨h0.y.h, h.P.segA encS_len, h.R.segA encRo_len, h0.y.u, h.A.segA encAs_len, h.C.segA encCl_len, e, fun y hy => ?_⟩, hm.cu, ?_, ?_, hm.lu, ?_, ?_, hm.lh, fun c hc => ?_, hm.bu, fun a ha => ?_, fun c hc => ?_⟩
  · obtain ⟨z, hz, rfl⟩ := List.mem_map.1 hy; exact h0.y.t z hz
  · show (s.par.map _).length ≤ 1000000; rw [List.length_map]; exact hm.lp
  · show (s.ro.map _).length ≤ 1000000; rw [List.length_map]; exact hm.lr
  · show (s.ac.map _).length ≤ 1000000; rw [List.length_map]; exact hm.la
  · show (s.cl.map _).length ≤ 1000000; rw [List.length_map]; exact hm.lc
  · obtain ⟨z, hz, rfl⟩ := List.mem_map.1 hc; exact hm.lx z hz
  · obtain ⟨z, hz, rfl⟩ := List.mem_map.1 ha; exact hm.ba z hz
  · obtain ⟨z, hz, rfl⟩ := List.mem_map.1 hc; exact hm.bc z hz
theorem nam_syA (s : Sy) (m : Sm) (t : ByteArray) (gp kp gr kr ga ka gc kc : Nat) (cs cs' : List Cm) : syA { s with nm := t } (naM m gp kp gr kr ga ka gc kc cs) = syA (s.nam t) (naM m gp kp gr kr ga ka gc kc cs') := by
  simp only [syA, Sy.nam, List.length_map]
end
set_option maxRecDepth 100000 in
set_option maxHeartbeats 12800000 in
theorem names_any (s : Sy) (m : Sm) (t : ByteArray) (w : World) (h : Beg w s m) : Calls Tryd.prog 5 #[.agg (syA s m), .string t] w fun e w' => e = .returned (.bool true) ∧ Below w.heap.size w w' := by
  have H := Lib.hid h
  have HH := Lib.hid (fun W (hb : Below w.heap.size w W) => head_any W (h.nr.below hb) (h.tb.below hb))
  have HS := Lib.hid (fun W (hb : Below w.heap.size w W) => small_any s m W (h.sm.then_ hb))
  clear h
  obtain ⟨b, hb⟩ : ∃ b, small s = b := ⟨_, rfl⟩
  rw [hb] at HS
  go_enter Tryd.func5, Tryd.ntmps5
  go_upto_region 1 with (fail)
  refine name_wp ?_
  intro X hX
  have gX : Blk X w.heap.size 34 (syA s m) := by rw [hX]; exact Blk.new _ _ _
  have hbX : Below w.heap.size w X := by rw [hX]; exact wa1 _ _
  have lX := gX.lt
  obtain ⟨b1, e1⟩ : ∃ b, w.heap.size = b := ⟨_, rfl⟩
  rw [e1] at gX ⊢
  have HBX := Lib.hid hbX
  clear hX hbX
  have hz := Below.refl X.heap.size X
  cases b with
  | false =>
    clear hb
    go_wp2_with (first | (refine wpList_row_w (by rfl) 34 _ rfl b1 rfl 34 (syA s m) (by (repeat (first | with_reducible assumption | with_reducible exact Blk.new _ _ _ | with_reducible refine Blk.drew ?_ | with_reducible refine Blk.alloc ?_ _ | with_reducible refine Blk.drewN ?_ _ | with_reducible apply Blk.setT0 | with_reducible apply Blk.setT1 | with_reducible refine Blk.far ?_ (by first | (simp; done) | omega | (simp; omega)) _ | with_reducible refine Blk.then_ ?_ (by with_reducible assumption)))) ⟨_, Tryd.underlying34⟩ (by kernel_rfl) ?_; simp only [Act.put, List.setIfInBounds_toArray, List.set_cons_succ, List.set_cons_zero]) | (go_at_call 9; (with_reducible refine (HH.out _ HBX.out).mono ?_); rintro e w1 ⟨rfl, hb1⟩) | (go_at_call 10; (with_reducible refine (HS.out _ (below_then HBX.out hb1)).mono ?_); rintro e w2 ⟨rfl, hb2⟩))
    go_ret
    exact ⟨rfl, below_then (below_then HBX.out hb1) hb2⟩
  | true =>
    have HSB := Lib.hid (H.out.sm.smb hb)
    obtain ⟨hl1, hl2, hl3, hl4⟩ : s.par.length ≤ 30 ∧ s.ro.length ≤ 30 ∧ s.ac.length ≤ 70 ∧ s.cl.length ≤ 60 := by simp only [small, Bool.and_eq_true, decide_eq_true_eq] at hb; omega
    clear hb
    by_cases ht : 100 < t.size
    · have d1 : decide (100 < (t.size : Int)) = true := decide_eq_true (by omega)
      clear ht
      go_wp2_with (first | (refine wpList_row_w (by rfl) 34 _ rfl b1 rfl 34 (syA s m) (by (repeat (first | with_reducible assumption | with_reducible exact Blk.new _ _ _ | with_reducible refine Blk.drew ?_ | with_reducible refine Blk.alloc ?_ _ | with_reducible refine Blk.drewN ?_ _ | with_reducible apply Blk.setT0 | with_reducible apply Blk.setT1 | with_reducible refine Blk.far ?_ (by first | (simp; done) | omega | (simp; omega)) _ | with_reducible refine Blk.then_ ?_ (by with_reducible assumption)))) ⟨_, Tryd.underlying34⟩ (by kernel_rfl) ?_; simp only [Act.put, List.setIfInBounds_toArray, List.set_cons_succ, List.set_cons_zero]) | (go_at_call 9; (with_reducible refine (HH.out _ HBX.out).mono ?_); rintro e w1 ⟨rfl, hb1⟩) | (go_at_call 10; (with_reducible refine (HS.out _ (below_then HBX.out hb1)).mono ?_); rintro e w2 ⟨rfl, hb2⟩))
      go_ret
      exact ⟨rfl, below_then (below_then HBX.out hb1) hb2⟩
    · have d1 : decide (100 < (t.size : Int)) = false := decide_eq_false (by omega)
      clear ht
      have HN := Lib.hid H.out.nl
      go_upto_region 5 with (first | (refine wpList_row_w (by rfl) 34 _ rfl b1 rfl 34 (syA s m) (by (repeat (first | with_reducible assumption | with_reducible exact Blk.new _ _ _ | with_reducible refine Blk.drew ?_ | with_reducible refine Blk.alloc ?_ _ | with_reducible refine Blk.drewN ?_ _ | with_reducible apply Blk.setT0 | with_reducible apply Blk.setT1 | with_reducible refine Blk.far ?_ (by first | (simp; done) | omega | (simp; omega)) _ | with_reducible refine Blk.then_ ?_ (by with_reducible assumption)))) ⟨_, Tryd.underlying34⟩ (by kernel_rfl) ?_; simp only [Act.put, List.setIfInBounds_toArray, List.set_cons_succ, List.set_cons_zero]) | (go_at_call 9; (with_reducible refine (HH.out _ HBX.out).mono ?_); rintro e w1 ⟨rfl, hb1⟩) | (go_at_call 10; (with_reducible refine (HS.out _ (below_then HBX.out hb1)).mono ?_); rintro e w2 ⟨rfl, hb2⟩) | (refine wpList_new 34 el18 _ _ rfl rfl rfl rfl rfl rfl _ rfl (by simp [Value.oneCell']) (by simp) rfl ?_; simp only [Act.put, List.setIfInBounds_toArray, List.set_cons_succ, List.set_cons_zero]))
      refine name_wp ?_
      intro Y hY
      have gS : Blk Y b1 34 (syA s m) := by rw [hY]; exact ((gX.then_ hb1).then_ hb2).alloc _
      have gO : Blk Y w2.heap.size 34 (syA s m) := by rw [hY]; exact Blk.new _ _ _
      have hbY : Below w.heap.size w Y := by rw [hY]; exact below_alloc (below_then (below_then HBX.out hb1) hb2) _
      obtain ⟨g, hg⟩ : ∃ g, w2.heap.size = g := ⟨_, rfl⟩
      have hgb : b1 < g := by rw [← hg]; exact ((gX.then_ hb1).then_ hb2).lt
      rw [hg] at gO ⊢
      clear hY hb1 hb2 gX lX hz d1 hg HS HH HBX
      have lO := gO.lt
      have c0 : Y.cell? ⟨g, 0, none⟩ = some (.string s.nm) := gO.cell 0
      have f0 : Y.frozen? ⟨g, 0, none⟩ = false := gO.frozen 0
      have GS := Lib.hid gS
      have GO := Lib.hid gO
      have HBY := Lib.hid hbY
      clear gS gO hbY
      go_upto_region 6 with (fail)
      refine name_wp ?_
      intro Z hZ
      have gS : Blk Z b1 34 (syA s m) := by rw [hZ]; exact GS.out.far (p := ⟨g, 0, none⟩) (by show b1 ≠ g; omega) _
      have gO : Blk Z g 34 (syA { s with nm := t } m) := by rw [hZ]; exact GO.out.set_ 0 _
      have hbZ : Below w.heap.size w Z := by rw [hZ]; exact HBY.out.setCell (p := ⟨g, 0, none⟩) (by show w.heap.size ≤ g; omega) _
      have hNN : w.heap.size ≤ b1 ∧ b1 < g := by omega
      clear hZ c0 f0 lO GS GO HBY hgb e1
      have NN := Lib.hid hNN
      clear hNN
      have GS := Lib.hid gS
      have GO := Lib.hid gO
      have HBZ := Lib.hid hbZ
      have l1 := gS.lt
      have lO := gO.lt
      have c13 : Z.cell? ⟨b1, 13, none⟩ = some (.slice m.p s.par.length m.pc) := gS.cell 13
      clear gS gO hbZ
      obtain ⟨i0, hi, hz0, hz1, hz2⟩ := info_parts (show (Tryd.prog.info? 9).map (fun i => (i.zero, i.size, i.bytes)) = some (some (.string ⟨#[]⟩), 1, 16) by kernel_rfl)
      go_upto_region 7 with (at_make; refine wpList_make_full _ rfl _ _ _ rfl w.heap.size 9 i0 _ 1 Tryd.underlying28 hi hz0 hz1 .i64 .i64 _ _ s.par.length rfl rfl rfl rfl (by rw [hz2]; omega) (by unfold maxLen; omega) HBZ.out.size ?_; intro V hown hgr; have hbV : Below Z.heap.size Z V := (Below.refl _ _).grown hgr (Nat.le_refl _) (by simp); have gV := GO.out.then_ hbV; have f13 : V.frozen? ⟨g, 13, none⟩ = false := gV.frozen 13; have v13 : V.cell? ⟨g, 13, none⟩ = some (.slice m.p s.par.length m.pc) := gV.cell 13; have lV := gV.lt)
      refine name_wp ?_
      intro A1 hA
      have hP : Own V w.heap.size 9 1 encS (.slice (some ⟨Z.heap.size, 0, none⟩) s.par.length s.par.length) (List.replicate s.par.length ⟨#[]⟩) := by
        unfold Own
        rw [← made_flat, List.length_replicate]; exact hown
      obtain ⟨gp, hgp⟩ : ∃ b, Z.heap.size = b := ⟨_, rfl⟩
      rw [hgp] at hP hA ⊢
      have hgg : g < gp := by rw [← hgp]; exact GO.out.lt
      have gS : Blk A1 b1 34 (syA s m) := by rw [hA]; exact (GS.out.then_ hbV).far (p := ⟨g, 13, none⟩) (show b1 ≠ g by have := NN.out; omega) _
      have gO : Blk A1 g 34 (syA { s with nm := t } { m with p := some ⟨gp, 0, none⟩, pc := s.par.length }) := by rw [hA]; exact gV.set_ 13 _
      have hb' : Below w.heap.size w A1 := by rw [hA]; exact (HBZ.out.trans (hbV.mono HBZ.out.size)).setCell (p := ⟨g, 13, none⟩) (show w.heap.size ≤ g by have := NN.out; omega) _
      have OP : Hid (Own A1 w.heap.size 9 1 encS (.slice (some ⟨gp, 0, none⟩) s.par.length s.par.length) (List.replicate s.par.length ⟨#[]⟩)) := by rw [hA]; exact hP.setNe (p := ⟨g, 13, none⟩) (by intro j hj; cases hj; show gp ≠ g; omega) _
      have hNN : (w.heap.size ≤ b1 ∧ b1 < g ∧ g < gp) := ⟨NN.out.1, NN.out.2, hgg⟩
      clear hA hP hown hgr hbV gV f13 v13 lV GS GO HBZ NN hgp hgg l1 lO c13
      have NN := Lib.hid hNN
      have GS := Lib.hid gS
      have GO := Lib.hid gO
      have HB := Lib.hid hb'
      clear gS gO hb' hNN
      obtain ⟨rr, rra, rrb, rrc, rrd⟩ := info_parts (show (Tryd.prog.info? 56).map (fun i => (i.zero, i.size, i.bytes)) = some (some (.agg #[.string ⟨#[]⟩, .int .i64 0]), 2, 24) by kernel_rfl)
      have l1 := GS.out.lt
      have lO := GO.out.lt
      have cS : A1.cell? ⟨b1, 14, none⟩ = some (.slice m.r s.ro.length m.rc) := GS.out.cell 14
      have HSEG : Hid (Seg A1 A1.heap.size 2 encRo m.r s.ro) := (HSB.out.then_ HB.out).y.r
      go_upto_region 8 with (at_builtin; go_loud (refine wpList_copy rfl (.tmp 29) (.tmp 31) _ rfl A1.heap.size 56 rr _ 2 24 Tryd.underlying29 rra rrb rrc rrd rfl (by omega) (by omega) encRo encRo_len encRo_one A1.heap.size rfl (Blk.new _ _ _) (Nat.le_refl _) m.r s.ro m.rc _ rfl rfl (by omega) _ (HSEG.out.below (wa1 _ _)) HN.out.r ?_); intro gr kr V hO hb hg; have hbV : Below A1.heap.size A1 V := (wa1 _ _).trans hb; have gV := GO.out.then_ hbV; have fq : V.frozen? ⟨g, 14, none⟩ = false := gV.frozen 14; have vq : V.cell? ⟨g, 14, none⟩ = some (.slice m.r s.ro.length m.rc) := gV.cell 14; have lV := gV.lt)
      refine name_wp ?_
      intro A2 hW
      have hlt : gp < gr := by have h1 := OP.out.lt_.2; have h2 := hg.1; omega
      have gS : Blk A2 b1 34 (syA s m) := by rw [hW]; exact (GS.out.then_ hbV).far (p := ⟨g, 14, none⟩) (show b1 ≠ g by have := NN.out; omega) _
      have gO : Blk A2 g 34 (syA { s with nm := t } { m with p := some ⟨gp, 0, none⟩, pc := s.par.length, r := some ⟨gr, 0, none⟩, rc := kr }) := by rw [hW]; exact gV.set_ 14 _
      have hb' : Below w.heap.size w A2 := by rw [hW]; exact (HB.out.trans (hbV.mono HB.out.size)).setCell (p := ⟨g, 14, none⟩) (show w.heap.size ≤ g by have := NN.out; omega) _
      have OPn : Hid (Own A2 w.heap.size 9 1 encS (.slice (some ⟨gp, 0, none⟩) s.par.length s.par.length) (List.replicate s.par.length ⟨#[]⟩)) := by rw [hW]; exact (OP.out.below hbV).setNe (p := ⟨g, 14, none⟩) (by intro j hj; cases hj; show gp ≠ g; have := NN.out; omega) _
      clear OP
      have OP := OPn
      clear OPn
      have OR0 : Own A2 w.heap.size 56 2 encRo (.slice (some ⟨gr, 0, none⟩) s.ro.length kr) s.ro := by rw [hW]; exact (hO.setBelow (p := ⟨g, 14, none⟩) lO _).more HB.out.size
      have hNN := And.intro NN.out hlt
      clear hW hO hb hg hbV gV fq vq lV GS GO HB NN hlt l1 lO cS HSEG 
      have NN := Lib.hid hNN
      have GS := Lib.hid gS
      have GO := Lib.hid gO
      have HB := Lib.hid hb'
      have OR := Lib.hid OR0
      clear gS gO hb' hNN OR0
      obtain ⟨ra, raa, rab, rac, rad⟩ := info_parts (show (Tryd.prog.info? 60).map (fun i => (i.zero, i.size, i.bytes)) = some (some (.agg #[.string ⟨#[]⟩, .int .i64 0, .int .i64 0, .int .i64 0, .int .i64 0, .int .i64 0, .int .i64 0, .int .i64 0, .int .i64 0]), 9, 80) by kernel_rfl)
      have l1 := GS.out.lt
      have lO := GO.out.lt
      have cS : A2.cell? ⟨b1, 16, none⟩ = some (.slice m.a s.ac.length m.ac) := GS.out.cell 16
      have HSEG : Hid (Seg A2 A2.heap.size 9 encAs m.a s.ac) := (HSB.out.then_ HB.out).y.a
      go_upto_region 9 with (at_builtin; go_loud (refine wpList_copy rfl (.tmp 34) (.tmp 36) _ rfl A2.heap.size 60 ra _ 9 80 Tryd.underlying31 raa rab rac rad rfl (by omega) (by omega) encAs encAs_len encAs_one A2.heap.size rfl (Blk.new _ _ _) (Nat.le_refl _) m.a s.ac m.ac _ rfl rfl (by omega) _ (HSEG.out.below (wa1 _ _)) HN.out.a ?_); intro ga ka V hO hb hg; have hbV : Below A2.heap.size A2 V := (wa1 _ _).trans hb; have gV := GO.out.then_ hbV; have fq : V.frozen? ⟨g, 16, none⟩ = false := gV.frozen 16; have vq : V.cell? ⟨g, 16, none⟩ = some (.slice m.a s.ac.length m.ac) := gV.cell 16; have lV := gV.lt)
      refine name_wp ?_
      intro A3 hW
      have hlt : gr < ga := by have h1 := OR.out.lt_.2; have h2 := hg.1; omega
      have gS : Blk A3 b1 34 (syA s m) := by rw [hW]; exact (GS.out.then_ hbV).far (p := ⟨g, 16, none⟩) (show b1 ≠ g by have := NN.out; omega) _
      have gO : Blk A3 g 34 (syA { s with nm := t } { m with p := some ⟨gp, 0, none⟩, pc := s.par.length, r := some ⟨gr, 0, none⟩, rc := kr, a := some ⟨ga, 0, none⟩, ac := ka }) := by rw [hW]; exact gV.set_ 16 _
      have hb' : Below w.heap.size w A3 := by rw [hW]; exact (HB.out.trans (hbV.mono HB.out.size)).setCell (p := ⟨g, 16, none⟩) (show w.heap.size ≤ g by have := NN.out; omega) _
      have OPn : Hid (Own A3 w.heap.size 9 1 encS (.slice (some ⟨gp, 0, none⟩) s.par.length s.par.length) (List.replicate s.par.length ⟨#[]⟩)) := by rw [hW]; exact (OP.out.below hbV).setNe (p := ⟨g, 16, none⟩) (by intro j hj; cases hj; show gp ≠ g; have := NN.out; omega) _
      have ORn : Hid (Own A3 w.heap.size 56 2 encRo (.slice (some ⟨gr, 0, none⟩) s.ro.length kr) s.ro) := by rw [hW]; exact (OR.out.below hbV).setNe (p := ⟨g, 16, none⟩) (by intro j hj; cases hj; show gr ≠ g; have := NN.out; omega) _
      clear OP
      have OP := OPn
      clear OPn
      clear OR
      have OR := ORn
      clear ORn
      have OA0 : Own A3 w.heap.size 60 9 encAs (.slice (some ⟨ga, 0, none⟩) s.ac.length ka) s.ac := by rw [hW]; exact (hO.setBelow (p := ⟨g, 16, none⟩) lO _).more HB.out.size
      have hNN := And.intro NN.out hlt
      clear hW hO hb hg hbV gV fq vq lV GS GO HB NN hlt l1 lO cS HSEG 
      have NN := Lib.hid hNN
      have GS := Lib.hid gS
      have GO := Lib.hid gO
      have HB := Lib.hid hb'
      have OA := Lib.hid OA0
      clear gS gO hb' hNN OA0
      have hcs : s.cl.length = m.cs.length := HSB.out.len.symm
      have HCS := Lib.hid hcs
      clear hcs
      have hl5 : m.cs.length ≤ 60 := by rw [← HCS.out]; exact hl4
      obtain ⟨rc, rca, rcb, rcc, rcd⟩ := info_parts (show (Tryd.prog.info? 51).map (fun i => (i.zero, i.size, i.bytes)) = some (some (.agg #[.string ⟨#[]⟩, .int .i64 0, .int .i64 0, .bool false, .string ⟨#[]⟩, .int .i64 0, .bool false, .string ⟨#[]⟩, .int .i64 0, .int .i64 0, .int .i64 0, .int .i64 0, .slice none 0 0, .int .i64 0, .int .i64 0, .bool false, .bool false, .int .i64 0, .int .i64 0, .int .i64 0, .int .i64 0, .int .i64 0, .int .i64 0, .bool false]), 24, 224) by kernel_rfl)
      have l1 := GS.out.lt
      have lO := GO.out.lt
      have cS : A3.cell? ⟨b1, 17, none⟩ = some (.slice m.c s.cl.length m.cc) := GS.out.cell 17
      have HSEG : Hid (Seg A3 A3.heap.size 24 encCl m.c m.cs) := (HSB.out.then_ HB.out).y.c
      go_upto_region 10 with (at_builtin; go_loud (refine wpList_copy rfl (.tmp 39) (.tmp 41) _ rfl A3.heap.size 51 rc _ 24 224 Tryd.underlying32 rca rcb rcc rcd rfl (by omega) (by omega) encCl encCl_len encCl_one A3.heap.size rfl (Blk.new _ _ _) (Nat.le_refl _) m.c m.cs m.cc _ rfl HCS.out (by omega) _ (HSEG.out.below (wa1 _ _)) HN.out.c ?_); intro gc kc V hO hb hg; have hbV : Below A3.heap.size A3 V := (wa1 _ _).trans hb; have gV := GO.out.then_ hbV; have fq : V.frozen? ⟨g, 17, none⟩ = false := gV.frozen 17; have vq : V.cell? ⟨g, 17, none⟩ = some (.slice m.c s.cl.length m.cc) := gV.cell 17; have lV := gV.lt)
      refine name_wp ?_
      intro A4 hW
      have hlt : ga < gc := by have h1 := OA.out.lt_.2; have h2 := hg.1; omega
      have gS : Blk A4 b1 34 (syA s m) := by rw [hW]; exact (GS.out.then_ hbV).far (p := ⟨g, 17, none⟩) (show b1 ≠ g by have := NN.out; omega) _
      have gO : Blk A4 g 34 (syA { s with nm := t } (naM m gp s.par.length gr kr ga ka gc kc m.cs)) := by rw [hW]; have h := gV.set_ 17 (.slice (some ⟨gc, 0, none⟩) m.cs.length kc); rw [← HCS.out] at h ⊢; exact h
      have hb' : Below w.heap.size w A4 := by rw [hW]; exact (HB.out.trans (hbV.mono HB.out.size)).setCell (p := ⟨g, 17, none⟩) (show w.heap.size ≤ g by have := NN.out; omega) _
      have OPn : Hid (Own A4 w.heap.size 9 1 encS (.slice (some ⟨gp, 0, none⟩) s.par.length s.par.length) (List.replicate s.par.length ⟨#[]⟩)) := by rw [hW]; exact (OP.out.below hbV).setNe (p := ⟨g, 17, none⟩) (by intro j hj; cases hj; show gp ≠ g; have := NN.out; omega) _
      have ORn : Hid (Own A4 w.heap.size 56 2 encRo (.slice (some ⟨gr, 0, none⟩) s.ro.length kr) s.ro) := by rw [hW]; exact (OR.out.below hbV).setNe (p := ⟨g, 17, none⟩) (by intro j hj; cases hj; show gr ≠ g; have := NN.out; omega) _
      have OAn : Hid (Own A4 w.heap.size 60 9 encAs (.slice (some ⟨ga, 0, none⟩) s.ac.length ka) s.ac) := by rw [hW]; exact (OA.out.below hbV).setNe (p := ⟨g, 17, none⟩) (by intro j hj; cases hj; show ga ≠ g; have := NN.out; omega) _
      clear OP
      have OP := OPn
      clear OPn
      clear OR
      have OR := ORn
      clear ORn
      clear OA
      have OA := OAn
      clear OAn
      have OC0 : Own A4 w.heap.size 51 24 encCl (.slice (some ⟨gc, 0, none⟩) m.cs.length kc) m.cs := by rw [hW]; exact (hO.setBelow (p := ⟨g, 17, none⟩) lO _).more HB.out.size
      rw [← HCS.out] at OC0 ⊢
      have hNN := And.intro NN.out hlt
      clear hW hO hb hg hbV gV fq vq lV GS GO HB NN hlt l1 lO cS HSEG 
      have NN := Lib.hid hNN
      have GS := Lib.hid gS
      have GO := Lib.hid gO
      have HB := Lib.hid hb'
      have OC := Lib.hid OC0
      clear gS gO hb' hNN OC0
      have HP : Hid (Nms w s m t b1 g gp s.par.length gr kr ga ka gc kc A4 (List.replicate s.par.length ⟨#[]⟩) s.ro s.ac m.cs) := ⟨GS.out, GO.out, OP.out, OR.out, OA.out, OC.out, HB.out, (by have := NN.out; omega), by simp, rfl, rfl, HCS.out.symm⟩
      clear GS GO OP OR OA OC HB NN
      go_upto_region 11 with (fail)
      go_loopw [7] (fun x wr => ∃ k : Nat, k ≤ s.par.length ∧ x = .int .i64 k ∧ Hid (Nms w s m t b1 g gp s.par.length gr kr ga ka gc kc wr (upd (fun _ => t) k (List.replicate s.par.length (⟨#[]⟩ : ByteArray))) s.ro s.ac m.cs)) (fun x _ => 2000000 - (intOf x).toNat)
      case atStart => exact ⟨0, by omega, rfl, by rw [upd0]; exact HP⟩
      case round =>
        clear HP
        obtain ⟨k, hk, rfl, HP⟩ := hrel
        have cc : wr.cell? ⟨g, 13, none⟩ = some (.slice (some ⟨gp, 0, none⟩) s.par.length s.par.length) := HP.out.O.cell 13
        have lO := HP.out.O.lt
        by_cases hlt : k < s.par.length
        · obtain ⟨x, hx⟩ : ∃ x, (List.replicate s.par.length (⟨#[]⟩ : ByteArray))[k]? = some x := ⟨_, List.getElem?_eq_getElem (by rw [List.length_replicate]; exact hlt)⟩
          have hx' := upd_get (f := (fun _ => t)) (k := k) hx
          obtain ⟨q1, f1⟩ := HP.out.P.getAt encS_len HP.out.lp hx' (j := 0) (by omega)
          have q1' : wr.cell? ⟨gp, k * 1 + 0, none⟩ = some (.string x) := q1
          simp only [Nat.mul_one, Nat.add_zero] at q1' f1
          have HX := Lib.hid (And.intro hx hx')
          clear hx hx' q1
          go_wp2
          go_roundw
          case rel => exact ⟨k + 1, by omega, by go_num, by rw [← upd_set HX.out.1]; exact HP.out.setP HX.out.2 (.string t) rfl (by omega)⟩
          case measure => simp [intOf]; omega
        · obtain rfl : k = s.par.length := by omega
          clear hlt hk
          go_upto_region 15 with (fail)
          clear cc lO
          go_loopw [8] (fun x wr => ∃ k : Nat, k ≤ s.ro.length ∧ x = .int .i64 k ∧ Hid (Nms w s m t b1 g gp s.par.length gr kr ga ka gc kc wr (upd (fun _ => t) s.par.length (List.replicate s.par.length (⟨#[]⟩ : ByteArray))) (upd (fun r : Ro => { r with nm := t }) k (s.ro)) s.ac m.cs)) (fun x _ => 2000000 - (intOf x).toNat)
          case atStart => exact ⟨0, by omega, rfl, by rw [upd0]; exact HP⟩
          case round =>
            clear HP
            obtain ⟨k, hk, rfl, HP⟩ := hrel
            have cc : wr.cell? ⟨g, 14, none⟩ = some (.slice (some ⟨gr, 0, none⟩) s.ro.length kr) := HP.out.O.cell 14
            have lO := HP.out.O.lt
            by_cases hlt : k < s.ro.length
            · obtain ⟨x, hx⟩ : ∃ x, (s.ro)[k]? = some x := ⟨_, List.getElem?_eq_getElem (by skip; exact hlt)⟩
              have hx' := upd_get (f := (fun r : Ro => { r with nm := t })) (k := k) hx
              obtain ⟨q1, f1⟩ := HP.out.R.getAt encRo_len HP.out.lr hx' (j := 0) (by omega)
              have q1' : wr.cell? ⟨gr, k * 2 + 0, none⟩ = some (.string x.nm) := q1
              simp only [Nat.mul_one, Nat.add_zero] at q1' f1
              have HX := Lib.hid (And.intro hx hx')
              clear hx hx' q1
              go_wp2
              go_roundw
              case rel => exact ⟨k + 1, by omega, by go_num, by rw [← upd_set HX.out.1]; exact HP.out.setR HX.out.2 (.string t) rfl (by omega)⟩
              case measure => simp [intOf]; omega
            · obtain rfl : k = s.ro.length := by omega
              clear hlt hk
              go_upto_region 19 with (fail)
              clear cc lO
              go_loopw [9] (fun x wr => ∃ k : Nat, k ≤ s.ac.length ∧ x = .int .i64 k ∧ Hid (Nms w s m t b1 g gp s.par.length gr kr ga ka gc kc wr (upd (fun _ => t) s.par.length (List.replicate s.par.length (⟨#[]⟩ : ByteArray))) (upd (fun r : Ro => { r with nm := t }) s.ro.length (s.ro)) (upd (fun a : As => { a with nm := t }) k (s.ac)) m.cs)) (fun x _ => 2000000 - (intOf x).toNat)
              case atStart => exact ⟨0, by omega, rfl, by rw [upd0]; exact HP⟩
              case round =>
                clear HP
                obtain ⟨k, hk, rfl, HP⟩ := hrel
                have cc : wr.cell? ⟨g, 16, none⟩ = some (.slice (some ⟨ga, 0, none⟩) s.ac.length ka) := HP.out.O.cell 16
                have lO := HP.out.O.lt
                by_cases hlt : k < s.ac.length
                · obtain ⟨x, hx⟩ : ∃ x, (s.ac)[k]? = some x := ⟨_, List.getElem?_eq_getElem (by skip; exact hlt)⟩
                  have hx' := upd_get (f := (fun a : As => { a with nm := t })) (k := k) hx
                  obtain ⟨q1, f1⟩ := HP.out.A.getAt encAs_len HP.out.la hx' (j := 0) (by omega)
                  have q1' : wr.cell? ⟨ga, k * 9 + 0, none⟩ = some (.string x.nm) := q1
                  simp only [Nat.mul_one, Nat.add_zero] at q1' f1
                  have HX := Lib.hid (And.intro hx hx')
                  clear hx hx' q1
                  go_wp2
                  go_roundw
                  case rel => exact ⟨k + 1, by omega, by go_num, by rw [← upd_set HX.out.1]; exact HP.out.setA HX.out.2 (.string t) rfl (by omega)⟩
                  case measure => simp [intOf]; omega
                · obtain rfl : k = s.ac.length := by omega
                  clear hlt hk
                  go_upto_region 23 with (fail)
                  clear cc lO
                  go_loopw [10] (fun x wr => ∃ k : Nat, k ≤ s.cl.length ∧ x = .int .i64 k ∧ Hid (Nms w s m t b1 g gp s.par.length gr kr ga ka gc kc wr (upd (fun _ => t) s.par.length (List.replicate s.par.length (⟨#[]⟩ : ByteArray))) (upd (fun r : Ro => { r with nm := t }) s.ro.length (s.ro)) (upd (fun a : As => { a with nm := t }) s.ac.length (s.ac)) (upd (fun c : Cm => { c with c := { c.c with nm := t } }) k (m.cs)))) (fun x _ => 2000000 - (intOf x).toNat)
                  case atStart => exact ⟨0, by omega, rfl, by rw [upd0]; exact HP⟩
                  case round =>
                    clear HP
                    obtain ⟨k, hk, rfl, HP⟩ := hrel
                    have cc : wr.cell? ⟨g, 17, none⟩ = some (.slice (some ⟨gc, 0, none⟩) s.cl.length kc) := HP.out.O.cell 17
                    have lO := HP.out.O.lt
                    by_cases hlt : k < s.cl.length
                    · obtain ⟨x, hx⟩ : ∃ x, (m.cs)[k]? = some x := ⟨_, List.getElem?_eq_getElem (by rw [← HCS.out]; exact hlt)⟩
                      have hx' := upd_get (f := (fun c : Cm => { c with c := { c.c with nm := t } })) (k := k) hx
                      obtain ⟨q1, f1⟩ := HP.out.C.getAt encCl_len HP.out.lc hx' (j := 0) (by omega)
                      have q1' : wr.cell? ⟨gc, k * 24 + 0, none⟩ = some (.string x.c.nm) := q1
                      simp only [Nat.mul_one, Nat.add_zero] at q1' f1
                      have HX := Lib.hid (And.intro hx hx')
                      clear hx hx' q1
                      go_wp2
                      go_roundw
                      case rel => exact ⟨k + 1, by omega, by go_num, by rw [← upd_set HX.out.1]; exact HP.out.setC HX.out.2 (.string t) rfl (by omega)⟩
                      case measure => simp [intOf]; omega
                    · obtain rfl : k = s.cl.length := by omega
                      clear hlt hk
                      go_upto_region 26 with (fail)
                      clear cc lO
                      have HQ : Hid (Nms w s m t b1 g gp s.par.length gr kr ga ka gc kc wr (s.par.map fun _ => t) (s.ro.map fun r => { r with nm := t }) (s.ac.map fun a => { a with nm := t }) (m.cs.map fun c => { c with c := { c.c with nm := t } })) := by
                        have h := HP.out
                        rw [upd_rep, upd_all, upd_all] at h
                        have e : upd (fun c : Cm => { c with c := { c.c with nm := t } }) s.cl.length m.cs = m.cs.map fun c => { c with c := { c.c with nm := t } } := by rw [HCS.out]; exact upd_all
                        rw [e] at h
                        exact h
                      have gO : Blk wr g 34 (syA (s.nam t) (naM m gp s.par.length gr kr ga ka gc kc (m.cs.map fun c => { c with c := { c.c with nm := t } }))) := by rw [← nam_syA (cs := m.cs)]; exact HQ.out.O
                      have gS := HQ.out.S
                      have hsm := HQ.out.smb HSB.out
                      have HC1 := fun W (hb : Below wr.heap.size wr W) => check_any (s.nam t) _ W (H.out.nr.below (below_then HQ.out.B hb)) (H.out.tb.below (below_then HQ.out.B hb)) (hsm.then_ hb)
                      simp only [names_law] at HC1
                      have HC2 := fun W (hb : Below wr.heap.size wr W) => check_any s m W (H.out.nr.below (below_then HQ.out.B hb)) (H.out.tb.below (below_then HQ.out.B hb)) (HSB.out.then_ (below_then HQ.out.B hb))
                      have hll := chk_len s
                      obtain ⟨L, hL⟩ : ∃ L, chk s = L := ⟨_, rfl⟩
                      rw [hL] at hll
                      simp only [hL] at HC1 HC2
                      obtain ⟨V1, hV1⟩ : ∃ V, syA (s.nam t) (naM m gp s.par.length gr kr ga ka gc kc (m.cs.map fun c => { c with c := { c.c with nm := t } })) = V := ⟨_, rfl⟩
                      obtain ⟨V2, hV2⟩ : ∃ V, syA s m = V := ⟨_, rfl⟩
                      have z1 : V1.size = 18 := by rw [← hV1]; rfl
                      have z2 : V2.size = 18 := by rw [← hV2]; rfl
                      rw [hV1] at gO HC1
                      rw [hV2] at gS HC2
                      have hi1 : (Tryd.prog.info? 34).map (·.size) = some V1.size := by rw [z1]; kernel_rfl
                      have hi2 : (Tryd.prog.info? 34).map (·.size) = some V2.size := by rw [z2]; kernel_rfl
                      have GO := Lib.hid gO
                      have GS := Lib.hid gS
                      have HB := Lib.hid HQ.out.B
                      have hs0 := Below.refl wr.heap.size wr
                      clear HP HQ gO gS hsm hL hV1 hV2 z1 z2
                      go_upto_region 26 with (fail)
                      refine wp_region_held_drew (S := fun w' => Below wr.heap.size wr w') (by kernel_rfl) (by (repeat (first | with_reducible assumption | with_reducible refine below_drewN ?_ _ | with_reducible refine Below.drew ?_ | with_reducible refine below_alloc ?_ _ | with_reducible refine Below.setCell ?_ (by first | omega | (simp; done) | (simp; omega)) _ | with_reducible refine below_then ?_ (by with_reducible assumption)))) (fun hHeld => ?_)
                      refine wpAnyH_take (i := 0) (oi := ⟨some 95, _, _, _, _, _⟩) rfl (by kernel_rfl) (by kernel_rfl) (by kernel_rfl) (fun _ _ _ h => h) (Or.inl ⟨by rfl, fun _ _ => by rfl⟩) (by assumption) ?_
                      try simp only [Act.put, List.setIfInBounds_toArray, List.set_cons_zero, List.set_cons_succ]
                      refine wpAnyH_take (i := 1) (oi := ⟨some 96, _, _, _, _, _⟩) rfl (by kernel_rfl) (by kernel_rfl) (by kernel_rfl) (fun _ _ _ h => h) (Or.inl ⟨by rfl, fun _ _ => by rfl⟩) (by assumption) ?_
                      try simp only [Act.put, List.setIfInBounds_toArray, List.set_cons_zero, List.set_cons_succ]
                      refine wpAnyH_take (i := 2) (oi := ⟨some 97, _, _, _, _, _⟩) rfl (by kernel_rfl) (by kernel_rfl) (by kernel_rfl) (fun _ _ _ h => h) (yieldsIf_row (by rfl) 34 _ rfl g rfl 34 V1 (fun _ hw => GO.out.then_ hw) ⟨_, Tryd.underlying34⟩ hi1) (by assumption) ?_
                      try simp only [Act.put, List.setIfInBounds_toArray, List.set_cons_zero, List.set_cons_succ]
                      refine wpAnyH_take (i := 4) (oi := ⟨some 99, _, _, _, _, _⟩) rfl (by kernel_rfl) (by kernel_rfl) (by kernel_rfl) (fun _ _ _ h => h) (yieldsIf_row (by rfl) 34 _ rfl b1 rfl 34 V2 (fun _ hw => GS.out.then_ hw) ⟨_, Tryd.underlying34⟩ hi2) (by assumption) ?_
                      try simp only [Act.put, List.setIfInBounds_toArray, List.set_cons_zero, List.set_cons_succ]
                      refine wpAnyH_ready (rs := [3]) (by kernel_rfl) (by simp) ?_
                      refine AllReadyH.cons (o := ⟨some 98, _, _, _, _, _⟩) rfl (fun K hK => ?_) AllReadyH.nil
                      go_simp
                      (go_at_call 11; (with_reducible refine (HC1 _ (by (repeat (first | with_reducible assumption | with_reducible refine below_drewN ?_ _ | with_reducible refine Below.drew ?_ | with_reducible refine below_alloc ?_ _ | with_reducible refine Below.setCell ?_ (by first | omega | (simp; done) | (simp; omega)) _ | with_reducible refine below_then ?_ (by with_reducible assumption))))).mono ?_); rintro e w8 ⟨v8, rfl, hb8, hO8⟩; obtain ⟨A8, c8, rfl, _, hS8⟩ := hO8.seg encF_len)
                      refine hK.out _ _ (by (repeat (first | with_reducible assumption | with_reducible refine below_drewN ?_ _ | with_reducible refine Below.drew ?_ | with_reducible refine below_alloc ?_ _ | with_reducible refine Below.setCell ?_ (by first | omega | (simp; done) | (simp; omega)) _ | with_reducible refine below_then ?_ (by with_reducible assumption)))) (fun hHeld2 => ?_)
                      clear hK K hHeld
                      have hHeld := hHeld2
                      clear hHeld2
                      try simp only [Act.put, List.setIfInBounds_toArray, List.set_cons_zero, List.set_cons_succ]
                      refine wpAnyH_ready (rs := [5]) (by kernel_rfl) (by simp) ?_
                      refine AllReadyH.cons (o := ⟨some 100, _, _, _, _, _⟩) rfl (fun K hK => ?_) AllReadyH.nil
                      go_simp
                      (go_at_call 11; (with_reducible refine (HC2 _ (by (repeat (first | with_reducible assumption | with_reducible refine below_drewN ?_ _ | with_reducible refine Below.drew ?_ | with_reducible refine below_alloc ?_ _ | with_reducible refine Below.setCell ?_ (by first | omega | (simp; done) | (simp; omega)) _ | with_reducible refine below_then ?_ (by with_reducible assumption))))).mono ?_); rintro e w9 ⟨v9, rfl, hb9, hO9⟩; obtain ⟨A9, c9, rfl, _, hS9⟩ := hO9.seg encF_len)
                      refine hK.out _ _ (by (repeat (first | with_reducible assumption | with_reducible refine below_drewN ?_ _ | with_reducible refine Below.drew ?_ | with_reducible refine below_alloc ?_ _ | with_reducible refine Below.setCell ?_ (by first | omega | (simp; done) | (simp; omega)) _ | with_reducible refine below_then ?_ (by with_reducible assumption)))) (fun hHeld2 => ?_)
                      clear hK K hHeld
                      have hHeld := hHeld2
                      clear hHeld2
                      try simp only [Act.put, List.setIfInBounds_toArray, List.set_cons_zero, List.set_cons_succ]
                      refine wpAnyH_ready (rs := [6]) (by kernel_rfl) (by simp) ?_
                      refine AllReadyH.cons (o := ⟨some 101, _, _, _, _, _⟩) rfl (fun K hK => ?_) AllReadyH.nil
                      go_simp
                      (go_at_call 13; refine (faults_eq A8 A9 c8 c9 L _ (by omega) (by (first | exact hS8 | exact (hS8.below hb9).more hb9.size)) (by (first | exact hS9 | exact (hS9.below hb8).more hb8.size))).mono ?_; rintro e w10 ⟨rfl, hb10⟩)
                      refine hK.out _ _ (by (repeat (first | with_reducible assumption | with_reducible refine below_drewN ?_ _ | with_reducible refine Below.drew ?_ | with_reducible refine below_alloc ?_ _ | with_reducible refine Below.setCell ?_ (by first | omega | (simp; done) | (simp; omega)) _ | with_reducible refine below_then ?_ (by with_reducible assumption)))) (fun hHeld2 => ?_)
                      clear hK K hHeld
                      have hHeld := hHeld2
                      clear hHeld2
                      try simp only [Act.put, List.setIfInBounds_toArray, List.set_cons_zero, List.set_cons_succ]
                      refine wpAnyH_take (i := 7) (oi := ⟨some 102, _, _, _, _, _⟩) rfl (by kernel_rfl) (by kernel_rfl) (by kernel_rfl) (fun _ _ _ h => h) (Or.inl ⟨by rfl, fun _ _ => by rfl⟩) (by assumption) ?_
                      try simp only [Act.put, List.setIfInBounds_toArray, List.set_cons_zero, List.set_cons_succ]
                      refine wpAnyH_take (i := 8) (oi := ⟨some 4, _, _, _, _, _⟩) rfl (by kernel_rfl) (by kernel_rfl) (by kernel_rfl) (fun _ _ _ h => h) (Or.inl ⟨by rfl, fun _ _ => by rfl⟩) (by assumption) ?_
                      try simp only [Act.put, List.setIfInBounds_toArray, List.set_cons_zero, List.set_cons_succ]
                      refine wpAnyH_done (by kernel_rfl) ?_ _
                      clear hb9 hO9 hS9 hS8 hO8
                      go_wp2
                      go_ret
                      exact ⟨rfl, below_then HB.out (by assumption)⟩
end Go.Proofs.YtcfjehohemdanaaDoor
