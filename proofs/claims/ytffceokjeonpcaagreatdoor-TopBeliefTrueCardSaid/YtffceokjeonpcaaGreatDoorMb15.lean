/- Contracts of functions and plain laws, joined: Tq5, Tx1, Uc, Ud, Ue, Uf, Ug. -/
import Derived.Test.YtffceokjeonpcaaGreatDoorMb14
import Derived.Test.YtffceokjeonpcaaGreatDoorMb11
import Derived.Test.YtffceokjeonpcaaGreatDoorMb6
import Derived.Test.YtffceokjeonpcaaGreatDoorMb1
set_option maxHeartbeats 12800000
set_option maxRecDepth 100000
namespace Go.Proofs.YtffceokjeonpcaaGreatDoor
open Go.RowKit Go.Sort
attribute [local go_sem] Oper.semAt_some
def xD4 (r8 : Nat) (W : World) (x : Nat) : Prop := x = r8 ∨ ∃ v, W.cell? ⟨r8, 0, none⟩ = some v ∧ v.ownBlock = some x
theorem xFg {α : Type} {w : World} {B : Nat} {T : TypeId} {size : Nat} {enc : α → List Value} {v : Value} {xs : List α} (h : Own w B T size enc v xs) {x : Nat} (hx : v.ownBlock = some x) : B ≤ x ∧ x < w.heap.size := by
 rcases h.2 with ⟨rfl, _⟩ | ⟨g, cap, cur, rfl, hg, hh, _⟩
 ·cases hx
 ·cases hx
  exact ⟨hg, (Array.getElem?_eq_some_iff.1 hh).1⟩
section
variable {w W W' : World} {c : Con} {m : Cm} {see : See} {l : List Int} {A : Option Addr} {cap pa pl bf r6 r7 r8 N Z i : Nat} {fv : Value}
theorem SeJ.kept (h : SeJ w c m see l A cap pa pl bf r6 r7 r8 N Z fv i W) (hz : pa < Z ∧ pl < Z ∧ bf < Z ∧ r6 < Z ∧ r7 < Z ∧ r8 < Z ∧ w.heap.size ≤ Z) (hk : Kept W W' (fun x => Z ≤ x ∧ ¬ xD4 r8 W x)) : SeJ w c m see l A cap pa pl bf r6 r7 r8 N Z fv i W' := by
 obtain ⟨z1, z2, z3, z4, z5, z6, z7⟩ := hz
 have np : ∀ x, x < Z → ¬ (Z ≤ x ∧ ¬ xD4 r8 W x) := fun x hx hp => by omega
 obtain ⟨v, g8, hO, hn⟩ := h.r8
 refine ⟨h.a.kept hk (np _ z1), h.al.kept hk (np _ z2), h.f.kept hk (np _ z3), h.r6.kept hk (np _ z4), h.r7.kept hk (np _ z5), ⟨v, g8.kept hk (np _ z6), ⟨hO.1, ?_⟩, hn⟩, h.b.trans (hk.b _ (fun x hx => by omega) h.b.size), Nat.le_trans h.s hk.size⟩
 rcases hO.2 with h2 | ⟨g, cp, cur, rfl, hg, hh, r⟩
 ·exact .inl h2
 ·exact .inr ⟨g, cp, cur, rfl, hg, by rw [hk.k g (Array.getElem?_eq_some_iff.1 hh).1 (fun hx => hx.2 (.inr ⟨_, g8.cell 0, rfl⟩))]; exact hh, r⟩
theorem SeJ.pa_ (h : SeJ w c m see l A cap pa pl bf r6 r7 r8 N Z fv i W) (hz : r8 < Z) {x : Nat} (hx : xD4 r8 W x) : x < W.heap.size ∧ x ≠ Z ∧ x ≠ Z + 1 := by
 obtain ⟨v, g8, hO, hn⟩ := h.r8
 rcases hx with rfl | ⟨u, hu, hx⟩
 ·exact ⟨g8.lt, by omega, by omega⟩
 ·have e : some u = some v := hu.symm.trans (g8.cell 0)
  cases e
  exact ⟨(xFg hO hx).2, (hn x hx).1, (hn x hx).2⟩
theorem SeJ.pb_ (h : SeJ w c m see l A cap pa pl bf r6 r7 r8 N Z fv i W) (hz : r8 < Z) (hk : Kept W W' (fun x => Z ≤ x ∧ ¬ xD4 r8 W x)) {x : Nat} (hx : xD4 r8 W' x) : xD4 r8 W x := by
 obtain ⟨v, g8, hO, hn⟩ := h.r8
 rcases hx with rfl | ⟨u, hu, hx⟩
 ·exact .inl rfl
 ·have g8' := g8.kept hk (fun hp => by omega)
  have e : some u = some v := hu.symm.trans (g8'.cell 0)
  cases e
  exact .inr ⟨_, g8.cell 0, hx⟩
end
theorem Blk.grownI {α : Type} {w w' : World} {b B : Nat} {t T : TypeId} {cs : Array Value} {size : Nat} {enc : α → List Value} {v : Value} {xs : List α} (h : Blk w b t cs) (hO : Own w B T size enc v xs) (ht : t ≠ T) (hg : w.grownBy w' v.ownBlock) : Blk w' b t cs := by
 refine (hg.block b h.lt (fun e => ?_)).trans h
 rcases hO.2 with ⟨rfl, _⟩ | ⟨g, cap, cur, rfl, _, hh, _⟩
 ·cases e
 ·cases e
  have h9 := h.symm.trans hh
  injection h9 with h9
  injection h9 with _ h9
  exact ht h9
theorem Kept.grownI {w w' : World} {r : Option Nat} {p : Nat → Prop} (hg : w.grownBy w' r) (hp : ∀ k, r = some k → p k) : Kept w w' p :=
 ⟨fun B hB hs => (Below.refl B w).grown hg hs (fun k e => hB k (hp k e)), fun x hx hn => hg.block x hx (fun e => hn (hp x e.symm))⟩
theorem SeJ.app {w W W' : World} {c : Con} {m : Cm} {see : See} {l : List Int} {A : Option Addr} {cap pa pl bf r6 r7 r8 N Z i : Nat} {fv : Value} {v v' : Value} {x : Int} (h : SeJ w c m see l A cap pa pl bf r6 r7 r8 N Z fv i W) (hz : Z + 1 < W.heap.size) (hr : w.heap.size ≤ r8) (hn8 : r6 ≠ r8 ∧ r7 ≠ r8 ∧ bf ≠ r8 ∧ pa ≠ r8 ∧ pl ≠ r8 ∧ r8 < N ∧ w.heap.size ≤ N) (hv : W.cell? ⟨r8, 0, none⟩ = some v)
  (hO : Own W N 3 1 eI v (xBk c see c.first (l.take i))) (hO' : Own W' N 3 1 eI v' (xBk c see c.first (l.take i) ++ [x])) (hg : W.grownBy W' v.ownBlock) (hat : v'.ownBlock = v.ownBlock ∨ v'.ownBlock = some W.heap.size)
  (hx : xBk c see c.first (l.take (i + 1)) = xBk c see c.first (l.take i) ++ [x]) (hb : Below w.heap.size W W') :
  Kept W (W'.setCell ⟨r8, 0, none⟩ v') (xD4 r8 W) ∧ SeJ w c m see l A cap pa pl bf r6 r7 r8 N Z fv (i + 1) (W'.setCell ⟨r8, 0, none⟩ v') ∧ ∀ y, xD4 r8 (W'.setCell ⟨r8, 0, none⟩ v') y → xD4 r8 W y ∨ W.heap.size ≤ y := by
 obtain ⟨u, g8, _, hn⟩ := h.r8
 obtain rfl : v = u := by have e := hv.symm.trans (g8.cell 0); cases e; rfl
 have k1 : Kept W W' (xD4 r8 W) := Kept.grownI hg fun k e => .inr ⟨v, hv, e⟩
 obtain ⟨n1, n2, n3, n4, n5, n6, n7⟩ := hn8
 have g8' : Blk (W'.setCell ⟨r8, 0, none⟩ v') r8 22 #[v'] := by
  have := (g8.grownI hO (by decide) hg).set_ 0 v'
  simpa using this
 refine ⟨k1.setCell (.inl rfl), ⟨(h.a.grownI hO (by decide) hg).far (p := ⟨r8, 0, none⟩) n4 _, (h.al.grownI hO (by decide) hg).far (p := ⟨r8, 0, none⟩) n5 _, (h.f.grownI hO (by decide) hg).far (p := ⟨r8, 0, none⟩) n3 _, (h.r6.grownI hO (by decide) hg).far (p := ⟨r8, 0, none⟩) n1 _, (h.r7.grownI hO (by decide) hg).far (p := ⟨r8, 0, none⟩) n2 _, ⟨v', g8', by rw [hx]; exact hO'.setBelow (p := ⟨r8, 0, none⟩) n6 _, fun y hy => ?_⟩, (h.b.trans hb).setCell (p := ⟨r8, 0, none⟩) hr _, ?_⟩, fun y hy => ?_⟩
 ·rcases hat with e | e
  ·exact hn y (e ▸ hy)
  ·rw [e] at hy; cases hy; omega
 ·rw [World.size_setCell]; exact Nat.le_trans h.s k1.size
 ·rcases hy with rfl | ⟨u, hu, hy⟩
  ·exact .inl (.inl rfl)
  ·have e : some u = some v' := hu.symm.trans (g8'.cell 0)
   cases e
   rcases hat with e | e
   ·exact .inl (.inr ⟨v, hv, e ▸ hy⟩)
   ·rw [e] at hy; cases hy; exact .inr (Nat.le_refl _)
theorem xD8 {c : Con} {see : See} : ∀ (l : List Int) (s : Sta), (xBk c see s l).length ≤ l.length
 | [], _ => Nat.le_refl _
 | x :: l, s => by
  rw [xBk]
  have := xD8 (c := c) (see := see) l (s.step c x)
  split <;> simp only [List.length_cons] <;> omega
theorem elMo : ElT Tryz.prog 109 5 := ⟨⟨_, Tryz.underlying109⟩, by kernel_rfl, ⟨.agg #[.int .i64 0, .int .i64 0, .slice none 0 0, .slice none 0 0, .slice none 0 0], rfl, fun w => by kernel_rfl⟩⟩
theorem res_si {fn : Func} {tmps : Array Value} {w : World} {r s g g2 : Nat} {v : Int} {a : Value} (hres : fn.results = #[.cell r 22, .cell s 32]) (hp : tmps.getD r undef = .pointer (some ⟨g, 0, none⟩)) (hp2 : tmps.getD s undef = .pointer (some ⟨g2, 0, none⟩)) (c1 : w.cell? ⟨g, 0, none⟩ = some a) (c2 : w.cell? ⟨g2, 0, none⟩ = some (.int .i64 v)) :
  (results fn tmps).run Tryz.prog w = .ok (.tuple #[a, .int .i64 v]) w := by
 simp only [Array.getD_eq_getD_getElem?] at hp hp2
 simp [results, hres, hp, hp2, go_sem, c1, c2]
theorem seen_any (c : Con) (m : Cm) (l : List Int) (A : Option Addr) (cap : Nat) (ps : List Int) (AP : Option Addr) (capP bp bc : Nat) (w : World) (hC : Cont w c m) (hA : Seg w w.heap.size 1 eI A l) (hE : c.runE l = 0) (hP : Seg w w.heap.size 1 eI AP ps) (np : ps.length ≤ 1000000) (gp : Blk w bp 22 #[.slice AP ps.length capP]) (gc : Blk w bc 27 (coA c m)) (hK : ∀ i, i ≤ l.length → SOk c (stAt c l i)) :
  Calls Tryz.prog 25 #[.agg (coA c m), .slice A l.length cap, .func (.func 26) #[] #[.pointer (some ⟨bp, 0, none⟩), .pointer (some ⟨bc, 0, none⟩)]] w fun e w' => (∃ v, e = .returned (.tuple #[v, .int .i64 0]) ∧ Own w' w.heap.size 3 1 eI v (xBk c (xB2 ps) c.first l)) ∧ Below w.heap.size w w' := by
 have HC := qzL hC
 have HA := qzL hA
 have HE := qzL hE
 have HP := qzL hP
 have GP := qzL gp
 have GC := qzL gc
 have HK := qzL hK
 clear hC hA hE hP gp gc hK
 refine (callsIn_wide (n := 6)).1 ?_
 refine callsIn_of_wp_marks Tryz.func25 rfl trivial ?_
 simp only [Tryz.ntmps25, List.size_toArray, List.length_cons, List.length_nil, Nat.reduceAdd, Nat.reduceSub, Array.replicate_succ, Array.replicate_zero, List.push_toArray, List.append_toArray, qzF, qzE]
 refine wpIn_wide.2 ?_
 refine wp_qs ?_
 go_upto_region 2 with (fail)
 refine xAi ?_
 intro X hX
 obtain ⟨fv, efv⟩ : ∃ v, (Value.func (.func 26) #[] #[.pointer (some ⟨bp, 0, none⟩), .pointer (some ⟨bc, 0, none⟩)]) = v := ⟨_, rfl⟩
 have ga : Blk X w.heap.size 27 (coA c m) := by rw [hX]; exact (((((Blk.new _ _ _).alloc _).alloc _).alloc _).alloc _)
 have gf : Blk X (w.heap.size + 1) 70 #[fv] := by rw [hX, ← efv]; exact ((((xA0 (by simp)).alloc _).alloc _).alloc _)
 have g6 : Blk X (w.heap.size + 1 + 1) 22 #[.slice none 0 0] := by rw [hX]; exact (((xA0 (by simp)).alloc _).alloc _)
 have g7 : Blk X (w.heap.size + 1 + 1 + 1) 32 #[.int .i64 0] := by rw [hX]; exact ((xA0 (by simp)).alloc _)
 have g8 : Blk X (w.heap.size + 1 + 1 + 1 + 1) 22 #[.slice none 0 0] := by rw [hX]; exact (xA0 (by simp))
 have HB : Hid (Below w.heap.size w X) := by rw [hX]; unfold Hid; (repeat first | exact Below.refl _ _ | refine xAc ?_ _)
 obtain ⟨r8, er8⟩ : ∃ b, w.heap.size + 1 + 1 + 1 + 1 = b := ⟨_, rfl⟩
 obtain ⟨r7, er7⟩ : ∃ b, w.heap.size + 1 + 1 + 1 = b := ⟨_, rfl⟩
 obtain ⟨r6, er6⟩ : ∃ b, w.heap.size + 1 + 1 = b := ⟨_, rfl⟩
 obtain ⟨bf, ebf⟩ : ∃ b, w.heap.size + 1 = b := ⟨_, rfl⟩
 obtain ⟨ba, eba⟩ : ∃ b, w.heap.size = b := ⟨_, rfl⟩
 have l8 : Hid (r8 = w.heap.size + 4) := by unfold Hid; omega
 have lts : Hid (w.heap.size ≤ ba ∧ ba < bf ∧ bf < r6 ∧ r6 < r7 ∧ r7 < r8) := by unfold Hid; omega
 rw [er8] at g8 ⊢
 rw [er7] at g7 ⊢
 rw [er6] at g6 ⊢
 rw [ebf] at gf ⊢
 rw [eba] at ga ⊢
 have HPR := qzL (prun_any c m A l.length cap X)
 clear hX er8 er7 er6 ebf eba
 go_wp2_with (first | (refine xAf (by rfl) 27 _ rfl ba rfl 27 _ ga ⟨_, Tryz.underlying27⟩ (by kernel_rfl) ?_; simp only [Act.put, qzG, qzH, qzI]) | (go_at_call 51; (with_reducible refine HPR.out.mono ?_); rintro e Z ⟨pa, pl, rfl, gpa, gpl, hbZ, lpa, lpl⟩))
 have h0 : Hid (SeJ w c m (xB2 ps) l A cap pa pl bf r6 r7 r8 (w.heap.size + 5) Z.heap.size fv 0 Z) :=
  ⟨gpa, gpl, gf.then_ hbZ, g6.then_ hbZ, g7.then_ hbZ, ⟨_, g8.then_ hbZ, Own.nil _ _ _ _ _, fun x hx => by cases hx⟩, xAa HB.out hbZ, Nat.le_refl _⟩
 have hz : Hid (pa < Z.heap.size ∧ pl < Z.heap.size ∧ bf < Z.heap.size ∧ r6 < Z.heap.size ∧ r7 < Z.heap.size ∧ r8 < Z.heap.size ∧ w.heap.size ≤ Z.heap.size) := by
  have h8 := (g8.then_ hbZ).lt
  have := lts.out
  have h1 := gpa.lt
  have h2 := gpl.lt
  unfold Hid
  omega
 have lN : Hid (w.heap.size + 5 ≤ Z.heap.size) := by have := (g8.then_ hbZ).lt; have := lts.out; have := l8.out; unfold Hid; omega
 have lpp : Hid (X.heap.size ≤ pa ∧ X.heap.size ≤ pl ∧ r8 < X.heap.size) := ⟨lpa, lpl, g8.lt⟩
 clear ga gf g6 g7 g8 HPR gpa gpl hbZ lpa lpl
 obtain ⟨ri, hi, hz0, hz1, hz2⟩ := info_parts (show (Tryz.prog.info? 3).map (fun i => (i.zero, i.size, i.bytes)) = some (some (.int .i64 0), 1, 8) by kernel_rfl)
 have HL : Hid (l.length ≤ 4000) := (xCz HE.out).2.1
 refine prun_range 14 15 rfl rfl HE.out HC.out HA.out (xD4 r8) (fun i W => SeJ w c m (xB2 ps) l A cap pa pl bf r6 r7 r8 (w.heap.size + 5) Z.heap.size fv i W) (fun i W x h hx => h.pa_ hz.out.2.2.2.2.2.1 hx) (fun i W W' x h hk hx => h.pb_ hz.out.2.2.2.2.2.1 hk hx) (fun i W W' h hk => h.kept hz.out hk) (fun i W h => ⟨h.a, h.al⟩) (fun i W h => h.b) hz.out.2.2.2.2.2.2 h0.out ?_ ?_
 ·intro lp i W x q hx hJ hlW hq
  apply Exists.intro
  apply Exists.intro
  refine ⟨wa1 _ (.cells (momA x (stAt c l i) q) 109), fun K hK => ?_, fun W2 u hJ2 => ?_⟩
  ·have hno : ¬ LetsOut (fun (_ : Exit) (_ : Act) (_ : World) => False) := fun ⟨_, _, h⟩ => h
   simp only [qzG, qzH, qzI]
   gi_step
   gi_step
   with_reducible refine xAe ?_ ?_ ?_
   ·kernel_rfl
   ·first | exact xBy (xBy hno) | exact xBy hno | exact hno
   go_wp2_with (refine wpList_new 109 elMo _ _ rfl rfl rfl rfl rfl rfl (momA x (stAt c l i) q).toList rfl (by simp [Value.oneCell']) (by simp) rfl ?_; simp only [Act.put, qzG, qzH, qzI])
   with_reducible refine xAe ?_ ?_ ?_
   ·kernel_rfl
   ·first | exact xBy (xBy hno) | exact xBy hno | exact hno
   go_wp2
   exact hK
  ·have hil : i < l.length := (qzM hx).1
   obtain ⟨bm, ebm⟩ : ∃ b, W.heap.size = b := ⟨_, rfl⟩
   have hbm : Hid (Z.heap.size + 1 < bm ∧ bm < W2.heap.size) := by have := u.s; simp at this; unfold Hid; omega
   have gm : Blk W2 bm 109 (momA x (stAt c l i) q) := by rw [← ebm]; exact (Blk.new W 109 (momA x (stAt c l i) q)).upd u (by omega)
   have hq2 : Hid (Stq (Z.heap.size + 2) W2 (stAt c l i) q) := (hq.then_ (wa1 _ _)).kept (Kept.of_upd u rfl) ⟨fun a e => by have := hq.o.h a e; omega, fun a e => by have := hq.o.u a e; omega, fun a e => by have := hq.o.m a e; omega⟩
   rw [ebm]
   have m0 : W2.cell? ⟨bm, 0, none⟩ = some (.int .i64 x) := gm.cell 0
   have m1 : W2.cell? ⟨bm, 1, none⟩ = some (.int .i64 (stAt c l i).day) := gm.cell 1
   have m2 : W2.cell? ⟨bm, 2, none⟩ = some (.slice q.h (stAt c l i).hol.length q.hc) := gm.cell 2
   have m3 : W2.cell? ⟨bm, 3, none⟩ = some (.slice q.u (stAt c l i).used.length q.uc) := gm.cell 3
   have m4 : W2.cell? ⟨bm, 4, none⟩ = some (.slice q.m (stAt c l i).marks.length q.mc) := gm.cell 4
   have f0 : W2.cell? ⟨bf, 0, none⟩ = some fv := hJ2.f.cell 0
   have HJ2 := qzL hJ2
   have HVT := qzL (view_take (c := c) (see := xB2 ps) hx)
   have HX := qzL hx
   clear hJ hJ2 hx hq u hlW ebm gm
   cases tx : (x == -1) with
   | true =>
    first | (with_reducible refine xAe ?_ ?_ ?_; (focus kernel_rfl); exact nO) | (gi_step; (with_reducible refine xAe ?_ ?_ ?_; (focus kernel_rfl); exact nO)) | (gi_step; gi_step; (with_reducible refine xAe ?_ ?_ ?_; (focus kernel_rfl); exact nO)) | (gi_step; gi_step; gi_step; (with_reducible refine xAe ?_ ?_ ?_; (focus kernel_rfl); exact nO)) | (gi_step; gi_step; gi_step; gi_step; (with_reducible refine xAe ?_ ?_ ?_; (focus kernel_rfl); exact nO)) | (gi_step; gi_step; gi_step; gi_step; gi_step; (with_reducible refine xAe ?_ ?_ ?_; (focus kernel_rfl); exact nO))
    go_wp2
    first | (with_reducible refine xAe ?_ ?_ ?_; (focus kernel_rfl); exact nO) | (gi_step; (with_reducible refine xAe ?_ ?_ ?_; (focus kernel_rfl); exact nO)) | (gi_step; gi_step; (with_reducible refine xAe ?_ ?_ ?_; (focus kernel_rfl); exact nO)) | (gi_step; gi_step; gi_step; (with_reducible refine xAe ?_ ?_ ?_; (focus kernel_rfl); exact nO)) | (gi_step; gi_step; gi_step; gi_step; (with_reducible refine xAe ?_ ?_ ?_; (focus kernel_rfl); exact nO)) | (gi_step; gi_step; gi_step; gi_step; gi_step; (with_reducible refine xAe ?_ ?_ ?_; (focus kernel_rfl); exact nO))
    go_wp2
    first | (with_reducible refine xAe ?_ ?_ ?_; (focus kernel_rfl); exact nO) | (gi_step; (with_reducible refine xAe ?_ ?_ ?_; (focus kernel_rfl); exact nO)) | (gi_step; gi_step; (with_reducible refine xAe ?_ ?_ ?_; (focus kernel_rfl); exact nO)) | (gi_step; gi_step; gi_step; (with_reducible refine xAe ?_ ?_ ?_; (focus kernel_rfl); exact nO)) | (gi_step; gi_step; gi_step; gi_step; (with_reducible refine xAe ?_ ?_ ?_; (focus kernel_rfl); exact nO)) | (gi_step; gi_step; gi_step; gi_step; gi_step; (with_reducible refine xAe ?_ ?_ ?_; (focus kernel_rfl); exact nO))
    have hseeF : xCj c (xB2 ps) (stAt c l i) x = true := by unfold xCj; rw [tx]; rfl
    refine xBq ?_
    intro U hU
    have HJU : Hid (SeJ w c m (xB2 ps) l A cap pa pl bf r6 r7 r8 (w.heap.size + 5) Z.heap.size fv i U) := by unfold Hid; rw [hU]; exact HJ2.out
    have hm0 : U.cell? ⟨bm, 0, none⟩ = some (.int .i64 x) := by rw [hU]; exact m0
    have lU : Hid (w.heap.size + 5 ≤ U.heap.size) := by have := lN.out; have := hbm.out; unfold Hid; rw [hU]; omega
    have HBU : Hid (Below W2.heap.size W2 U) := by unfold Hid; rw [hU]; exact Below.refl _ _
    clear hU m0 m1 m2 m3 m4 f0
    obtain ⟨v8, g8, hO8, _⟩ := HJU.out.r8
    obtain ⟨A8, c8, rfl, _, _⟩ := hO8.seg xAz
    have nV : (xBk c (xB2 ps) c.first (l.take i)).length ≤ 1000000 := by have := xD8 (c := c) (see := xB2 ps) (l.take i) c.first; have := HL.out; rw [List.length_take] at *; omega
    have HO8 := qzL hO8
    obtain ⟨V8, hV8⟩ : ∃ L, xBk c (xB2 ps) c.first (l.take i) = L := ⟨_, rfl⟩
    rw [hV8] at HO8 HVT nV
    rw [hV8] at g8
    have c80 : U.cell? ⟨r8, 0, none⟩ = some (.slice A8 V8.length c8) := g8.cell 0
    have HV8 := qzL hV8
    have G8 := qzL g8
    clear hO8 hV8 g8
    go_wp2_with (at_builtin; go_loud (refine xDy rfl (.tmp 30) (.tmp 33) rfl ri hi hz0 hz1 hz2 (w.heap.size + 5) _ V8 rfl (HO8.out.alloc _) nV U.heap.size 1 x rfl (Blk.new _ _ _) (by have := lU.out; simp; omega) ?_); intro v4 w4 hO4 hg4 hat4; obtain ⟨A4, c4, rfl, _, _⟩ := hO4.seg xAz; have f84 : w4.frozen? ⟨r8, 0, none⟩ = false := ((G8.out.alloc _).grownI (HO8.out.alloc _) (by decide) hg4).frozen 0; have c84 := ((G8.out.alloc (.cells #[.int .i64 x] 3)).grownI (HO8.out.alloc _) (by decide) hg4).cell 0)
    simp only [List.length_append, List.length_cons, List.length_nil, Nat.zero_add] at hO4 hat4
    have HJ1 := HJU.out.kept hz.out (Kept.of_below (wa1 U (.cells #[.int .i64 x] 3)))
    have hN9 : r6 ≠ r8 ∧ r7 ≠ r8 ∧ bf ≠ r8 ∧ pa ≠ r8 ∧ pl ≠ r8 ∧ r8 < w.heap.size + 5 ∧ w.heap.size ≤ w.heap.size + 5 := by have := lts.out; have := l8.out; have := lpp.out; omega
    have hap := HJ1.app (x := x) (by have := hbm.out; have := HBU.out.size; simp; omega) (by have := l8.out; omega) hN9 ((G8.out.alloc _).cell 0) (by rw [HV8.out]; exact HO8.out.alloc _) (by rw [HV8.out]; exact hO4) hg4 hat4 (by rw [HV8.out, HVT.out, if_pos (hseeF)]) (((Below.refl _ _).grown hg4 (by have := lU.out; simp; omega) (fun k e => (xFg (HO8.out.alloc (.cells #[.int .i64 x] 3)) e).1)).mono (by omega))
    obtain ⟨k, sj, hp⟩ := hap
    have pbk : ∀ y, xD4 r8 (U.alloc (.cells #[.int .i64 x] 3)) y → xD4 r8 W2 y := fun y hy => HJ2.out.pb_ hz.out.2.2.2.2.2.1 (Kept.of_below HBU.out) (HJU.out.pb_ hz.out.2.2.2.2.2.1 (Kept.of_below (wa1 _ _)) hy)
    refine ⟨(Kept.of_below HBU.out).trans ((Kept.of_below (wa1 _ _)).trans (k.weak fun y hy => pbk y hy)), sj, fun y hy => ?_⟩
    rcases hp y hy with h | h
    ·exact .inl (pbk y h)
    ·refine .inr ?_
     have := HBU.out.size
     simp at h
     omega
   | false =>
    have hx1 : x ≠ -1 := by simpa using tx
    have hEx := xGg (xCz HE.out).2.2 HX.out
    have hxr : 0 ≤ x ∧ x < (c.ac.length : Int) := by
     change (stAt c l i).stepE c x = 0 at hEx
     unfold Sta.stepE at hEx
     split at hEx
     ·exact absurd hEx (by decide)
     ·next h => constructor <;> omega
    obtain ⟨n, rfl⟩ : ∃ n : Nat, x = (n : Int) := ⟨x.toNat, by omega⟩
    obtain ⟨a, ha⟩ : ∃ a, c.ac[n]? = some a := ⟨_, qzJ (show n < c.ac.length by omega)⟩
    obtain ⟨sv, hsv⟩ : ∃ b, (ps.any fun p => xBo (stAt c l i).hol p a) = b := ⟨_, rfl⟩
    have HSB : Hid (Calls Tryz.prog 26 #[.agg (stA (stAt c l i) q), .int .i64 (n : Nat), .pointer (some ⟨bp, 0, none⟩), .pointer (some ⟨bc, 0, none⟩)] W2 fun e w' => e = .returned (.bool sv) ∧ Below W2.heap.size W2 w') := by
     have hb := HJ2.out.b
     have h := xHa c m (stAt c l i) q n a ps AP capP bp bc W2 (HC.out.then_ hb) hq2.out.m ha (act_in (HK.out i (by omega)) (qzK ha)) ((HP.out.below hb).more hb.size) np (GP.out.then_ hb) (GC.out.then_ hb)
     rw [hsv] at h
     exact h
    have hseeF : Hid (xCj c (xB2 ps) (stAt c l i) (n : Int) = sv) := by unfold Hid xCj; rw [tx, Int.toNat_natCast, ha]; exact hsv
    rw [← efv] at f0
    clear efv hEx ha hsv hxr
    first | (with_reducible refine xAe ?_ ?_ ?_; (focus kernel_rfl); exact nO) | (gi_step; (with_reducible refine xAe ?_ ?_ ?_; (focus kernel_rfl); exact nO)) | (gi_step; gi_step; (with_reducible refine xAe ?_ ?_ ?_; (focus kernel_rfl); exact nO)) | (gi_step; gi_step; gi_step; (with_reducible refine xAe ?_ ?_ ?_; (focus kernel_rfl); exact nO)) | (gi_step; gi_step; gi_step; gi_step; (with_reducible refine xAe ?_ ?_ ?_; (focus kernel_rfl); exact nO)) | (gi_step; gi_step; gi_step; gi_step; gi_step; (with_reducible refine xAe ?_ ?_ ?_; (focus kernel_rfl); exact nO))
    go_wp2
    first | (with_reducible refine xAe ?_ ?_ ?_; (focus kernel_rfl); exact nO) | (gi_step; (with_reducible refine xAe ?_ ?_ ?_; (focus kernel_rfl); exact nO)) | (gi_step; gi_step; (with_reducible refine xAe ?_ ?_ ?_; (focus kernel_rfl); exact nO)) | (gi_step; gi_step; gi_step; (with_reducible refine xAe ?_ ?_ ?_; (focus kernel_rfl); exact nO)) | (gi_step; gi_step; gi_step; gi_step; (with_reducible refine xAe ?_ ?_ ?_; (focus kernel_rfl); exact nO)) | (gi_step; gi_step; gi_step; gi_step; gi_step; (with_reducible refine xAe ?_ ?_ ?_; (focus kernel_rfl); exact nO))
    go_wp2_with (go_at_call 26; (with_reducible refine HSB.out.mono ?_); rintro e w1 ⟨rfl, hb1⟩; have HB1 := qzL hb1; clear hb1)
    have HJU := qzL (HJ2.out.kept hz.out (Kept.of_below HB1.out))
    have hm0 : w1.cell? ⟨bm, 0, none⟩ = some (.int .i64 (n : Nat)) := (HB1.out.cell (p := ⟨bm, 0, none⟩) hbm.out.2).trans m0
    have lU : Hid (w.heap.size + 5 ≤ w1.heap.size) := by have := lN.out; have := hbm.out; have := HB1.out.size; unfold Hid; omega
    have HBU := HB1
    have hseeF := hseeF.out
    clear m0 m1 m2 m3 m4 f0
    cases sv with
    | false =>
     have h1 := HJU.out
     have e : xBk c (xB2 ps) c.first (l.take (i + 1)) = xBk c (xB2 ps) c.first (l.take i) := by rw [HVT.out, if_neg (by rw [hseeF]; decide), List.append_nil]
     have hS : Hid (SeJ w c m (xB2 ps) l A cap pa pl bf r6 r7 r8 (w.heap.size + 5) Z.heap.size fv (i + 1) w1) := ⟨h1.a, h1.al, h1.f, h1.r6, h1.r7, by obtain ⟨v, g, o, n⟩ := h1.r8; exact ⟨v, g, by rw [e]; exact o, n⟩, h1.b, h1.s⟩
     clear h1 e hm0
     gi_wp2
     exact ⟨Kept.of_below HB1.out, hS.out, fun y hy => .inl (HJ2.out.pb_ hz.out.2.2.2.2.2.1 (Kept.of_below HB1.out) hy)⟩
    | true =>
     first | (with_reducible refine xAe ?_ ?_ ?_; (focus kernel_rfl); exact nO) | (gi_step; (with_reducible refine xAe ?_ ?_ ?_; (focus kernel_rfl); exact nO)) | (gi_step; gi_step; (with_reducible refine xAe ?_ ?_ ?_; (focus kernel_rfl); exact nO)) | (gi_step; gi_step; gi_step; (with_reducible refine xAe ?_ ?_ ?_; (focus kernel_rfl); exact nO))
     obtain ⟨v8, g8, hO8, _⟩ := HJU.out.r8
     obtain ⟨A8, c8, rfl, _, _⟩ := hO8.seg xAz
     have nV : (xBk c (xB2 ps) c.first (l.take i)).length ≤ 1000000 := by have := xD8 (c := c) (see := xB2 ps) (l.take i) c.first; have := HL.out; rw [List.length_take] at *; omega
     have HO8 := qzL hO8
     obtain ⟨V8, hV8⟩ : ∃ L, xBk c (xB2 ps) c.first (l.take i) = L := ⟨_, rfl⟩
     rw [hV8] at HO8 HVT nV
     rw [hV8] at g8
     have c80 : w1.cell? ⟨r8, 0, none⟩ = some (.slice A8 V8.length c8) := g8.cell 0
     have HV8 := qzL hV8
     have G8 := qzL g8
     clear hO8 hV8 g8
     go_wp2_with (at_builtin; go_loud (refine xDy rfl (.tmp 30) (.tmp 33) rfl ri hi hz0 hz1 hz2 (w.heap.size + 5) _ V8 rfl (HO8.out.alloc _) nV w1.heap.size 1 (n : Int) rfl (Blk.new _ _ _) (by have := lU.out; simp; omega) ?_); intro v4 w4 hO4 hg4 hat4; obtain ⟨A4, c4, rfl, _, _⟩ := hO4.seg xAz; have f84 : w4.frozen? ⟨r8, 0, none⟩ = false := ((G8.out.alloc _).grownI (HO8.out.alloc _) (by decide) hg4).frozen 0; have c84 := ((G8.out.alloc (.cells #[.int .i64 (n : Nat)] 3)).grownI (HO8.out.alloc _) (by decide) hg4).cell 0)
     simp only [List.length_append, List.length_cons, List.length_nil, Nat.zero_add] at hO4 hat4
     have HJ1 := HJU.out.kept hz.out (Kept.of_below (wa1 w1 (.cells #[.int .i64 (n : Nat)] 3)))
     have hN9 : r6 ≠ r8 ∧ r7 ≠ r8 ∧ bf ≠ r8 ∧ pa ≠ r8 ∧ pl ≠ r8 ∧ r8 < w.heap.size + 5 ∧ w.heap.size ≤ w.heap.size + 5 := by have := lts.out; have := l8.out; have := lpp.out; omega
     have hap := HJ1.app (x := (n : Int)) (by have := hbm.out; have := HBU.out.size; simp; omega) (by have := l8.out; omega) hN9 ((G8.out.alloc _).cell 0) (by rw [HV8.out]; exact HO8.out.alloc _) (by rw [HV8.out]; exact hO4) hg4 hat4 (by rw [HV8.out, HVT.out, if_pos (hseeF)]) (((Below.refl _ _).grown hg4 (by have := lU.out; simp; omega) (fun k e => (xFg (HO8.out.alloc (.cells #[.int .i64 (n : Nat)] 3)) e).1)).mono (by omega))
     obtain ⟨k, sj, hp⟩ := hap
     have pbk : ∀ y, xD4 r8 (w1.alloc (.cells #[.int .i64 (n : Nat)] 3)) y → xD4 r8 W2 y := fun y hy => HJ2.out.pb_ hz.out.2.2.2.2.2.1 (Kept.of_below HBU.out) (HJU.out.pb_ hz.out.2.2.2.2.2.1 (Kept.of_below (wa1 _ _)) hy)
     refine ⟨(Kept.of_below HBU.out).trans ((Kept.of_below (wa1 _ _)).trans (k.weak fun y hy => pbk y hy)), sj, fun y hy => ?_⟩
     rcases hp y hy with h | h
     ·exact .inl (pbk y h)
     ·refine .inr ?_
      have := HBU.out.size
      simp at h
      omega
 ·intro D W hD hJ hK
  obtain ⟨v, g8, hO, hn⟩ := hJ.r8
  obtain ⟨A8, c8, rfl, _, _⟩ := hO.seg xAz
  obtain ⟨V8, hV8⟩ : ∃ L, xBk c (xB2 ps) c.first (l.take l.length) = L := ⟨_, rfl⟩
  rw [hV8] at g8 hO hn
  have HV8 : Hid (V8 = xBk c (xB2 ps) c.first l) := by unfold Hid; rw [← hV8, List.take_length]
  have f6 : W.frozen? ⟨r6, 0, none⟩ = false := hJ.r6.frozen 0
  have f7 : W.frozen? ⟨r7, 0, none⟩ = false := hJ.r7.frozen 0
  have c6 : W.cell? ⟨r6, 0, none⟩ = some (.slice none 0 0) := hJ.r6.cell 0
  have c7 : W.cell? ⟨r7, 0, none⟩ = some (.int .i64 0) := hJ.r7.cell 0
  have c8' : W.cell? ⟨r8, 0, none⟩ = some (.slice A8 V8.length c8) := g8.cell 0
  have n67 : r6 ≠ r7 := by have := lts.out; omega
  have n76 : r7 ≠ r6 := by have := lts.out; omega
  have HJ := qzL hJ
  have HK := qzL hK
  have HO := qzL hO
  have HN := qzL hn
  clear hJ hK hO g8 hV8 hn
  go_wp2
  have hnD : r6 ≠ D ∧ r7 ≠ D ∧ w.heap.size ≤ D := by have := hz.out; omega
  obtain ⟨V, hV⟩ : ∃ V, (W.setCell ⟨r6, 0, none⟩ (.slice A8 V8.length c8)).setCell ⟨r7, 0, none⟩ (.int .i64 0) = V := ⟨_, rfl⟩
  have hVD : V.heap[D]? = some (.deferred (some [])) := by
   rw [← hV]
   have h1 := (((Upd.refl W r6).setCell 0 (.slice A8 V8.length c8)).f D hnD.1.symm).trans HK.out
   exact (((Upd.refl _ r7).setCell 0 (.int .i64 0)).f D hnD.2.1.symm).trans h1
  have uD : Upd V (V.putObj D (.deferred none)) D := Upd.putObj _ (Array.getElem?_eq_some_iff.1 hVD).1
  have g6 : Blk V r6 22 #[.slice A8 V8.length c8] := by rw [← hV]; exact (HJ.out.r6.set_ 0 _).far (p := ⟨r7, 0, none⟩) n67 _
  have g7 : Blk V r7 32 #[.int .i64 0] := by rw [← hV]; exact (HJ.out.r7.far (p := ⟨r6, 0, none⟩) n76 _).set_ 0 _
  have hB : Below w.heap.size w V := by rw [← hV]; have := lts.out; exact (HJ.out.b.setCell (p := ⟨r6, 0, none⟩) (show w.heap.size ≤ r6 by omega) _).setCell (p := ⟨r7, 0, none⟩) (show w.heap.size ≤ r7 by omega) _
  have oV : Own (V.putObj D (.deferred none)) (w.heap.size + 5) 3 1 eI (.slice A8 V8.length c8) V8 := by
   refine Own.upd ?_ uD (fun k hk e => ?_)
   ·rw [← hV]
    have := lts.out
    have := l8.out
    exact (HO.out.setBelow (p := ⟨r6, 0, none⟩) (show r6 < w.heap.size + 5 by omega) _).setBelow (p := ⟨r7, 0, none⟩) (show r7 < w.heap.size + 5 by omega) _
   ·subst e
    rcases HO.out.2 with ⟨e1, _⟩ | ⟨g, cp, cur, e1, _, hh, _⟩
    ·rw [e1] at hk; cases hk
    ·cases e1
     cases hk
     have h9 := HK.out.symm.trans hh
     cases h9
  rw [hV]
  refine qs_ret (xHz hVD ?_)
  exact ⟨_, res_si rfl rfl rfl ((g6.upd uD hnD.1).cell 0) ((g7.upd uD hnD.2.1).cell 0), ⟨_, rfl, by rw [← HV8.out]; exact oV.more (by omega)⟩, hB.trans (uD.b _ hnD.2.2)⟩
end Go.Proofs.YtffceokjeonpcaaGreatDoor
namespace Go.Proofs.YtffceokjeonpcaaGreatDoor
open Go.RowKit
structure WJ (w : World) (c : Con) (m : Cm) (ba bs : Nat) (s : Sta) (q : Qm) (v : Value) (acc : List Int) (W : World) : Prop where
 ga : Blk W ba 27 (coA c m)
 gs : Blk W bs 47 (stA s q)
 st : Stq w.heap.size W s q
 o : Own W (bs + 1) 3 1 eI v acc
 n : SOff (fun b => b ≠ bs ∧ v.ownBlock ≠ some b) q
 b : Below w.heap.size w W
 l : w.heap.size ≤ ba ∧ ba < bs
section
variable {w W W1 W2 : World} {c : Con} {m : Cm} {ba bs : Nat} {s S : Sta} {q q1 : Qm} {v v' : Value} {acc : List Int} {x : Int}
theorem WJ.then_ (h : WJ w c m ba bs s q v acc W) (hb : Below W.heap.size W W1) : WJ w c m ba bs s q v acc W1 := ⟨h.ga.then_ hb, h.gs.then_ hb, h.st.then_ hb, h.o.below hb, h.n, xAa h.b hb, h.l⟩
theorem WJ.step (h : WJ w c m ba bs s q v acc W) (hb1 : Below W.heap.size W W1) (h1 : Stm W1 S q1) (h2 : SOff (W.heap.size ≤ ·) q1) (h3 : STy W1 q1) (u : Upd W1 W2 bs) (ge : Blk W2 bs 47 (stA S q1)) : WJ w c m ba bs S q1 v acc W2 := by
 have hl := h.l
 have hs := h.gs.lt
 have hsz := h.b.size
 have h1' : Stq w.heap.size W1 S q1 := ⟨h1, h2.more hsz, h3⟩
 refine ⟨(h.ga.then_ hb1).upd u (by omega), ge, h1'.kept (Kept.of_upd u (p := fun x => x = bs) rfl) ⟨fun a e hh => (by have := h2.h a e; omega), fun a e hh => (by have := h2.u a e; omega), fun a e hh => (by have := h2.m a e; omega)⟩, (h.o.below hb1).upd u (h.o.ne_ (by omega)), ⟨fun a e => (by have := h2.h a e; exact ⟨by omega, fun hh => by have := (xFg h.o hh).2; omega⟩), fun a e => (by have := h2.u a e; exact ⟨by omega, fun hh => by have := (xFg h.o hh).2; omega⟩), fun a e => (by have := h2.m a e; exact ⟨by omega, fun hh => by have := (xFg h.o hh).2; omega⟩)⟩, (xAa h.b hb1).trans (u.b _ (by omega)), h.l⟩
theorem WJ.app (h : WJ w c m ba bs s q v acc W) (hO : Own W1 (bs + 1) 3 1 eI v' (acc ++ [x])) (hg : W.grownBy W1 v.ownBlock) (hat : v'.ownBlock = v.ownBlock ∨ v'.ownBlock = some W.heap.size) : WJ w c m ba bs s q v' (acc ++ [x]) W1 := by
 have hl := h.l
 have hk : Kept W W1 (fun b => v.ownBlock = some b) := Kept.grownI hg fun k e => e
 refine ⟨h.ga.grownI h.o (by decide) hg, h.gs.grownI h.o (by decide) hg, h.st.kept hk ⟨fun a e => (h.n.h a e).2, fun a e => (h.n.u a e).2, fun a e => (h.n.m a e).2⟩, hO, ?_, h.b.trans (hk.b _ (fun b hb => by have := (xFg h.o hb).1; omega) h.b.size), h.l⟩
 rcases hat with e | e
 ·rw [e]; exact h.n
 ·rw [e]
  refine ⟨fun a e2 => ⟨(h.n.h a e2).1, fun hh => ?_⟩, fun a e2 => ⟨(h.n.u a e2).1, fun hh => ?_⟩, fun a e2 => ⟨(h.n.m a e2).1, fun hh => ?_⟩⟩
  ·obtain ⟨cs, hb⟩ := h.st.t.h a e2; have := hb.lt; injection hh with hh; omega
  ·obtain ⟨cs, hb⟩ := h.st.t.u a e2; have := hb.lt; injection hh with hh; omega
  ·obtain ⟨cs, hb⟩ := h.st.t.m a e2; have := hb.lt; injection hh with hh; omega
theorem xIa {s : Sta} {l : List Int} : accL c s (x :: l) = if s.stepE c x = 0 then x :: accL c (s.step c x) l else [] := rfl
theorem accL_bad (h : c.ok = false) : ∀ (l : List Int) (s : Sta), accL c s l = []
 | [], _ => rfl
 | x :: l, s => by
  rw [xIa, if_neg]
  unfold Sta.stepE Sta.ok
  rw [h]
  simp
end
theorem steps_any (c : Con) (m : Cm) (l : List Int) (A : Option Addr) (cap : Nat) (w : World) (hC : Cont w c m) (hA : Seg w w.heap.size 1 eI A l) (nl : l.length ≤ 1000000) :
  Calls Tryz.prog 7 #[.agg (coA c m), .slice A l.length cap] w fun e w' => (∃ v, e = .returned v ∧ Own w' w.heap.size 3 1 eI v (accL c c.first l)) ∧ Below w.heap.size w w' := by
 obtain ⟨L, hL⟩ : ∃ L, accL c c.first l = L := ⟨_, rfl⟩
 rw [hL]
 have HL := qzL hL
 have HA := qzL hA
 obtain ⟨E0, hE0⟩ : ∃ E, c.startE = E := ⟨_, rfl⟩
 obtain ⟨S0, hS0⟩ : ∃ E, c.startS = E := ⟨_, rfl⟩
 have HST : Hid (∀ W, Below w.heap.size w W → Calls Tryz.prog 21 #[.agg (coA c m)] W fun e w' => RetS W S0 E0 e w') := fun W hb => by
  have h := xCm c m W (hC.then_ hb)
  rw [hE0, hS0] at h
  exact h
 have HSP : Hid (∀ s q x W, Below w.heap.size w W → Stm W s q → Calls Tryz.prog 22 #[.agg (coA c m), .agg (stA s q), .int .i64 x] W fun e w' => RetS W (s.stepS c x) (s.stepE c x) e w') := fun s q x W hb hs => xD9 c m s q x W (hC.then_ hb) hs
 have HE : Hid ((E0 = 0 ∧ S0 = c.first) ∨ (E0 ≠ 0 ∧ L = [])) := by
  unfold Hid
  cases hok : c.ok with
  | true =>
   refine .inl ⟨?_, ?_⟩
   ·rw [← hE0]; unfold Con.startE; rw [hok]; rfl
   ·rw [← hS0]; unfold Con.startS; rw [hok]; rfl
  | false =>
   refine .inr ⟨?_, by rw [← hL]; exact accL_bad hok _ _⟩
   rw [← hE0]; unfold Con.startE; rw [hok]; decide
 obtain ⟨ri, hi, hz0, hz1, hz2⟩ := info_parts (show (Tryz.prog.info? 3).map (fun i => (i.zero, i.size, i.bytes)) = some (some (.int .i64 0), 1, 8) by kernel_rfl)
 clear hC hA hL hE0 hS0
 go_enter Tryz.func7, Tryz.ntmps7
 go_upto_region 1 with (fail)
 refine xAi ?_
 intro X hX
 have ga : Blk X w.heap.size 27 (coA c m) := by rw [hX]; exact Blk.new _ _ _
 have HB : Hid (Below w.heap.size w X) := by unfold Hid; rw [hX]; (repeat first | exact Below.refl _ _ | refine xAc ?_ _)
 obtain ⟨ba, eba⟩ : ∃ b, w.heap.size = b := ⟨_, rfl⟩
 have lba : Hid (w.heap.size ≤ ba) := by unfold Hid; omega
 rw [eba] at ga ⊢
 clear hX eba
 go_upto_region 2 with (first | (refine xAf (by rfl) 27 _ rfl ba rfl 27 _ ga ⟨_, Tryz.underlying27⟩ (by kernel_rfl) ?_; simp only [Act.put, qzG, qzH, qzI]) | (go_at_call 21; (with_reducible refine (HST.out X HB.out).mono ?_); rintro e w1 ⟨⟨q0, rfl, hs0, ho0, ht0⟩, hb1⟩) | (refine xAh rfl 47 _ _ rfl w1.heap.size 47 [] zS.toList [] (stA S0 q0).toList rfl rfl (Blk.new _ _ _) rfl (by kernel_rfl) (by simp [Value.oneCell']) ?_; intro w2 g2 u2))
 obtain ⟨bs, ebs⟩ : ∃ b, w1.heap.size = b := ⟨_, rfl⟩
 have hJ0 : Hid (∃ q, WJ w c m ba bs S0 q (.slice none 0 0) [] w2) := by
  have lX := ga.lt
  have hX1 := hb1.size
  have lb := lba.out
  have lw := HB.out.size
  rw [ebs] at g2 u2
  have hx1 : Below w1.heap.size w1 w2 := (wa1 _ _).trans (u2.b _ (by omega))
  have st1 : Stq w.heap.size w2 S0 q0 := ⟨hs0.then_ hx1, ho0.more lw, ht0.then_ hx1⟩
  refine ⟨q0, (ga.then_ hb1).then_ hx1, g2, st1, Own.nil _ _ _ _ _, ⟨fun a e => ?_, fun a e => ?_, fun a e => ?_⟩, xAa (xAa HB.out hb1) hx1, by omega⟩
  ·obtain ⟨cs, hb⟩ := ht0.h a e; have := hb.lt; exact ⟨by omega, fun hh => by cases hh⟩
  ·obtain ⟨cs, hb⟩ := ht0.u a e; have := hb.lt; exact ⟨by omega, fun hh => by cases hh⟩
  ·obtain ⟨cs, hb⟩ := ht0.m a e; have := hb.lt; exact ⟨by omega, fun hh => by cases hh⟩
 rw [ebs]
 have lbs : Hid (w.heap.size ≤ bs) := by have := HB.out.size; have := hb1.size; unfold Hid; omega
 clear ga hb1 hs0 ho0 ht0 g2 u2 ebs HST HB lba
 go_upto_region 4 with (fail)
 go_loopw [6, 7, 8] (fun e v y WR => ∃ (i : Nat) (E : Int) (s : Sta) (q : Qm) (acc : List Int), e = .int .i64 E ∧ y = .int .i64 i ∧ i ≤ l.length ∧ acc.length ≤ i ∧ Hid (WJ w c m ba bs s q v acc WR) ∧ Hid ((E = 0 ∧ L = acc ++ accL c s (l.drop i)) ∨ (E ≠ 0 ∧ L = acc))) (fun _ _ y _ => 2000000 - (intOf y).toNat)
 case atStart =>
  obtain ⟨q, hq⟩ := hJ0.out
  refine ⟨0, E0, S0, q, [], rfl, rfl, by omega, by simp, hq, ?_⟩
  rcases HE.out with ⟨h1, h2⟩ | ⟨h1, h2⟩
  ·exact .inl ⟨h1, by rw [h2, List.drop_zero, qzF]; exact HL.out.symm⟩
  ·exact .inr ⟨h1, h2⟩
 case round =>
  clear hJ0
  obtain ⟨i, E, s, q, acc, rfl, rfl, hi', hn, hJ, hLL⟩ := hrel
  obtain ⟨A9, c9, e9, hc9, _⟩ := hJ.out.o.seg xAz
  by_cases hgo : i < l.length ∧ E = 0
  case neg =>
   have hf : Hid (L = acc) := by
    unfold Hid
    rcases hLL.out with ⟨h1, h2⟩ | ⟨_, h2⟩
    ·have : l.length ≤ i := by
      rcases Nat.lt_or_ge i l.length with h | h
      ·exact absurd ⟨h, h1⟩ hgo
      ·exact h
     rw [h2, List.drop_of_length_le this]
     simp [accL]
    ·exact h2
   have hd : (decide ((i : Int) < (l.length : Int)) = false ∧ decide (i < l.length) = false) ∨ (decide ((i : Int) < (l.length : Int)) = true ∧ decide (i < l.length) = true ∧ (E == 0) = false) := by
    by_cases h : i < l.length
    ·exact .inr ⟨decide_eq_true (by omega), qzO h, beq_eq_false_iff_ne.2 fun e => hgo ⟨h, e⟩⟩
    ·exact .inl ⟨decide_eq_false (by omega), qzN h⟩
   clear hLL hgo
   subst e9
   rcases hd with ⟨t1, t1n⟩ | ⟨t1, t1n, t2⟩
   ·go_wp2
    go_ret
    exact ⟨⟨_, rfl, by rw [hf.out]; exact hJ.out.o.more (by have := lbs.out; omega)⟩, hJ.out.b⟩
   ·go_wp2
    go_ret
    exact ⟨⟨_, rfl, by rw [hf.out]; exact hJ.out.o.more (by have := lbs.out; omega)⟩, hJ.out.b⟩
  obtain ⟨hlt, rfl⟩ := hgo
  have t1 : decide ((i : Int) < (l.length : Int)) = true := qzO (by omega)
  have t1n : decide (i < l.length) = true := qzO hlt
  obtain ⟨x, hx⟩ : ∃ k, l[i]? = some k := ⟨_, qzJ hlt⟩
  obtain ⟨b0, o0, eA0, hb0, hc0⟩ := xAv HA.out hx
  have x0 : wr.cell? ⟨b0, o0 + i, none⟩ = some (.int .i64 x) := (hJ.out.b.cell (p := ⟨b0, o0 + i, none⟩) hb0).trans (by simpa using hc0 0 _ rfl)
  have hlb : b0 < wr.heap.size := Nat.lt_of_lt_of_le hb0 hJ.out.b.size
  have hix := fun W => xAp (t := 22) (size := 1) (cap := cap) (len := l.length) eA0 hlt (by kernel_rfl) (fun W => by kernel_rfl) W
  simp only [Nat.mul_one] at hix
  obtain ⟨SE, hSE⟩ : ∃ E, s.stepE c x = E := ⟨_, rfl⟩
  obtain ⟨SS, hSS⟩ : ∃ E, s.stepS c x = E := ⟨_, rfl⟩
  have HST : Hid (∀ W, Below wr.heap.size wr W → Calls Tryz.prog 22 #[.agg (coA c m), .agg (stA s q), .int .i64 x] W fun e w' => RetS W SS SE e w') := fun W hb => by
   have h := HSP.out s q x W (xAa hJ.out.b hb) (hJ.out.st.m.then_ hb)
   rw [hSE, hSS] at h
   exact h
  have hd : Hid (l.drop i = x :: l.drop (i + 1)) := by
   obtain ⟨hi, e⟩ := qzM hx
   unfold Hid
   rw [List.drop_eq_getElem_cons hi, e]
  have hL2 : Hid ((SE = 0 ∧ SS = s.step c x ∧ L = (acc ++ [x]) ++ accL c SS (l.drop (i + 1))) ∨ (SE ≠ 0 ∧ L = acc)) := by
   unfold Hid
   have h0 : L = acc ++ accL c s (l.drop i) := hLL.out.elim (·.2) fun h => absurd rfl h.1
   rw [hd.out, xIa, hSE] at h0
   by_cases e : SE = 0
   ·have e2 : SS = s.step c x := by rw [← hSS]; unfold Sta.stepS; rw [hSE, if_pos e]
    refine .inl ⟨e, e2, ?_⟩
    rw [h0, if_pos e, e2]
    simp
   ·refine .inr ⟨e, ?_⟩
    rw [h0, if_neg e]
    simp
  have hga := hJ.out.ga
  have hgs := hJ.out.gs
  subst e9
  have HX := qzL hx
  clear hx hc0 eA0 hSE hSS hd hLL hb0
  go_upto_region 6 with (fail)
  refine xBf (fun w' => Hid (Below wr.heap.size wr w')) [0, 1, 2, 3, 4, 5] [6, 7, 8, 9, 10, 11] (by kernel_rfl) (by kernel_rfl) pO (qzL (Below.drew (Below.refl _ _))) (fun hdir hsel hpan hHeld => ?_)
  refine xAd (i := 0) (oi := ⟨some 25, _, _, _, _, _⟩) hdir hsel hpan rfl (by kernel_rfl) (by kernel_rfl) (by kernel_rfl) (yieldsIf_row (by rfl) 27 _ rfl ba rfl 27 _ (fun w hw => hga.then_ hw.out) ⟨_, Tryz.underlying27⟩ (by kernel_rfl)) (by assumption) ?_
  try simp only [Act.put, qzG, qzI, qzH]
  refine xAd (i := 1) (oi := ⟨some 26, _, _, _, _, _⟩) hdir hsel hpan rfl (by kernel_rfl) (by kernel_rfl) (by kernel_rfl) (yieldsIf_row (by rfl) 47 _ rfl bs rfl 47 _ (fun w hw => hgs.then_ hw.out) ⟨_, Tryz.underlying47⟩ (by kernel_rfl)) (by assumption) ?_
  try simp only [Act.put, qzG, qzI, qzH]
  refine xAd (i := 2) (oi := ⟨some 27, _, _, _, _, _⟩) hdir hsel hpan rfl (by kernel_rfl) (by kernel_rfl) (by kernel_rfl) (Or.inl ⟨by rfl, fun _ _ => by rfl⟩) (by assumption) ?_
  try simp only [Act.put, qzG, qzI, qzH]
  refine xAd (i := 3) (oi := ⟨some 28, _, _, _, _, _⟩) hdir hsel hpan rfl (by kernel_rfl) (by kernel_rfl) (by kernel_rfl) (Or.inl ⟨by rfl, fun _ _ => by rfl⟩) (by assumption) ?_
  try simp only [Act.put, qzG, qzI, qzH]
  refine xAd (i := 4) (oi := ⟨some 29, _, _, _, _, _⟩) (v := .pointer (some ⟨b0, o0 + i, none⟩)) hdir hsel hpan rfl (by kernel_rfl) (by kernel_rfl) (by kernel_rfl) (Or.inl ⟨by rfl, fun w hw => by have h := hix w; go_simp⟩) (by assumption) ?_
  try simp only [Act.put, qzG, qzI, qzH]
  refine xAd (i := 5) (oi := ⟨some 30, _, _, _, _, _⟩) (v := .int .i64 x) hdir hsel hpan rfl (by kernel_rfl) (by kernel_rfl) (by kernel_rfl) (Or.inl ⟨by rfl, fun w hw => by have hc := (hw.out.cell (p := ⟨b0, o0 + i, none⟩) hlb).trans x0; go_simp⟩) (by assumption) ?_
  try simp only [Act.put, qzG, qzI, qzH]
  refine xA6 (by kernel_rfl) (by kernel_rfl) ?_
  clear hdir hsel hpan
  simp only [xAn, qzA, qzB, qzC, qzD, qzE, qzF]
  have HSM := qzL (HST.out _ hHeld.out)
  refine xBq ?_
  intro V hV
  have hbV : Below wr.heap.size wr V := by rw [hV]; exact hHeld.out
  rw [← hV] at HSM
  have HJV := qzL (hJ.out.then_ hbV)
  clear hV hHeld hga hgs x0 hix HST hJ hbV
  have hls := HJV.out.gs.lt
  go_upto_region 7 with (first | (go_at_call 22; (with_reducible refine HSM.out.mono ?_); rintro e w1 ⟨⟨q1, rfl, hs1, ho1, ht1⟩, hb1⟩) | (refine xAh rfl 47 _ _ rfl bs 47 [] (stA s q).toList [] (stA SS q1).toList rfl rfl (HJV.out.gs.then_ hb1) rfl (by kernel_rfl) (by simp [Value.oneCell']) ?_; intro we ge ue))
  have HJ2 := qzL (HJV.out.step hb1 hs1 ho1 ht1 ue ge)
  clear hb1 hs1 ho1 ht1 ue ge HJV HSM hls
  by_cases h1 : SE = 0
  case neg =>
   have t2 : (SE == 0) = false := by simpa using h1
   have hfin : Hid (L = acc) := hL2.out.elim (fun h => absurd h.1 h1) fun h => h.2
   have H1 := qzL h1
   clear hL2 h1
   have hii : i + 1 ≤ l.length := hlt
   go_wp2
   go_roundw
   case rel => exact ⟨i + 1, SE, SS, q1, acc, rfl, by simp, hii, by omega, HJ2, .inr ⟨H1.out, hfin.out⟩⟩
   case measure => simp [intOf]; omega
  subst h1
  have hL3 : Hid (L = (acc ++ [x]) ++ accL c SS (l.drop (i + 1))) := hL2.out.elim (fun h => h.2.2) fun h => absurd rfl h.1
  clear hL2
  have hii : i + 1 ≤ l.length := hlt
  have hnn : acc.length ≤ 1000000 := by omega
  obtain ⟨b0, o0, eA0, hb0, hc0⟩ := xAv HA.out HX.out
  have x0 : we.cell? ⟨b0, o0 + i, none⟩ = some (.int .i64 x) := (HJ2.out.b.cell (p := ⟨b0, o0 + i, none⟩) hb0).trans (by simpa using hc0 0 _ rfl)
  have hix := fun W => xAp (t := 22) (size := 1) (cap := cap) (len := l.length) eA0 hlt (by kernel_rfl) (fun W => by kernel_rfl) W
  simp only [Nat.mul_one] at hix
  clear hc0 eA0 hb0
  have lW := HJ2.out.gs.lt
  go_wp2_with (at_builtin; go_loud (refine xDy rfl (.tmp 36) (.tmp 41) rfl ri hi hz0 hz1 hz2 (bs + 1) _ acc rfl ((HJ2.out.then_ (wa1 _ _)).o) hnn we.heap.size 1 x rfl (Blk.new _ _ _) (by simp; omega) ?_); intro v4 w4 hO4 hg4 hat4; have HJ4 := qzL ((HJ2.out.then_ (wa1 we (.cells #[.int .i64 x] 3))).app hO4 hg4 hat4); clear hO4 hg4 hat4)
  go_roundw
  case rel => exact ⟨i + 1, 0, SS, q1, acc ++ [x], rfl, by simp, hii, by simp; omega, HJ4, .inl ⟨rfl, hL3.out⟩⟩
  case measure => simp [intOf]; omega
open Go.Maps Go.Sort
def EffR (w0 w : World) (b : Nat) (c : Con) (m : Cm) (r : Rd) (wl : Int → List Int) (q : Rq) (i : Nat) (y : Out × Cnt) (V : Value) (e : Ending) (w' : World) : Prop := e = .returned V ∧ Rdm w0 w' b c m (r.wo (r.oc.set i y)) wl q ∧ Kept w w' (fun x => x = q.o)
theorem xGq (w0 : World) (b : Nat) (c : Con) (m : Cm) (r : Rd) (wl : Int → List Int) (q : Rq) (i : Nat) (x : Out × Cnt) (st : Int) (w : World) (hW : Rdm w0 w b c m r wl q) (hx : r.oc[i]? = some x) :
  Calls Tryz.prog 108 #[.pointer (some ⟨b, 0, none⟩), .int .i64 (i : Nat), .int .i64 st] w fun e w' => EffR w0 w b c m r wl q i ({ x.1 with st := st, to_ := r.steps }, x.2) (.tuple #[]) e w' := by
 have him : i < r.oc.length := (qzM hx).1
 have hix := fun W => xA4 (t := 52) (size := 5) (g := q.o) (cap := q.oc) him (by kernel_rfl) (fun W => by kernel_rfl) W
 have HW := qzL hW
 have HX := qzL hx
 have nm := hW.no
 have k14 : w.cell? ⟨b, 14, none⟩ = some (.slice (some ⟨q.o, 0, none⟩) r.oc.length q.oc) := hW.g.cell 14
 have k7 : w.cell? ⟨b, 7, none⟩ = some (.int .i64 r.steps) := hW.g.cell 7
 clear hW hx
 go_enter Tryz.func108, Tryz.ntmps108
 have rg0 := cR k14
 have rg1 := cR k7
 refine xBm [9] [0, 1, 2, 3, 4, 5, 6, 7, 8, 10, 11, 12, 13, 14] [15, 16, 17, 18, 19, 20] (by kernel_rfl) (by kernel_rfl) pO ?_
 simp only [xAn, qzA, qzB, qzC, qzD, qzE, qzF]
 repeat (go_big_quiet_step (skip))
 refine wpQuiet_nil ?_
 intro X hw2
 have hbX := xAj hw2
 clear hw2 rg0 rg1
 have hWX := HW.out.then_ hbX
 obtain ⟨⟨m0, f0⟩, ⟨m1, f1⟩, ⟨m2, f2⟩, ⟨m3, f3⟩, ⟨m4, f4⟩⟩ := hWX.out HX.out
 have HX2 := qzL hWX
 clear hWX
 go_wp2
 go_end0
 refine ⟨rfl, ?_, ?_⟩
 ·have h1 := HX2.out.setO (j := 0) (y := { x.1 with st := st }) (v := .int .i64 st) HX.out (by omega) rfl
  have h2 := h1.setO (i := i) (j := 2) (x := ({ x.1 with st := st }, x.2)) (y := { x.1 with st := st, to_ := r.steps }) (v := .int .i64 r.steps) (by simp [him]) (by omega) rfl
  simpa using h2
 ·exact ((Kept.of_below (p := (· = q.o)) hbX).setCell rfl).setCell rfl
theorem xFe (w0 : World) (b : Nat) (c : Con) (m : Cm) (r : Rd) (wl : Int → List Int) (q : Rq) (i : Nat) (x : Out × Cnt) (w : World) (hW : Rdm w0 w b c m r wl q) (hx : r.oc[i]? = some x) :
  Calls Tryz.prog 106 #[.pointer (some ⟨b, 0, none⟩), .int .i64 (i : Nat)] w fun e w' => e = .returned (.bool x.1.runs) ∧ Below w.heap.size w w' := by
 have him : i < r.oc.length := (qzM hx).1
 have hix := fun W => xA4 (t := 52) (size := 5) (g := q.o) (cap := q.oc) him (by kernel_rfl) (fun W => by kernel_rfl) W
 have nm := hW.no
 have k14 : w.cell? ⟨b, 14, none⟩ = some (.slice (some ⟨q.o, 0, none⟩) r.oc.length q.oc) := hW.g.cell 14
 obtain ⟨⟨m0, f0⟩, ⟨m1, f1⟩, ⟨m2, f2⟩, ⟨m3, f3⟩, ⟨m4, f4⟩⟩ := hW.out hx
 have HR : Hid (x.1.runs = (decide (0 ≤ x.1.from_) && decide (x.1.to_ < 0))) := rfl
 obtain ⟨R, eR⟩ : ∃ R, x.1.runs = R := ⟨_, rfl⟩
 rw [eR]
 have HR := HR.out
 rw [eR] at HR
 have HR := qzL HR
 clear hW hx eR
 go_enter Tryz.func106, Tryz.ntmps106
 cases t1 : decide (0 ≤ x.1.from_) with
 | false =>
  have e1 : Hid (R = false) := by unfold Hid; rw [HR.out, t1, Bool.false_and]
  go_wp2
  go_ret
  exact ⟨xAb e1.out.symm, by (repeat (first | (with_reducible first | assumption | exact Below.refl _ _ | refine xAk ?_ _ | refine Below.drew ?_ | refine xAc ?_ _ | refine Below.setCell ?_ (by first | omega | (simp; done) | (simp; omega)) _ | refine xAa ?_ (by assumption)) | (refine xAa (a := World.drew _) ?_ (by with_reducible assumption))))⟩
 | true =>
  cases t2 : decide (x.1.to_ < 0) with
  | false =>
   have e1 : Hid (R = false) := by unfold Hid; rw [HR.out, t1, t2]; rfl
   go_wp2
   go_ret
   exact ⟨xAb e1.out.symm, by (repeat (first | (with_reducible first | assumption | exact Below.refl _ _ | refine xAk ?_ _ | refine Below.drew ?_ | refine xAc ?_ _ | refine Below.setCell ?_ (by first | omega | (simp; done) | (simp; omega)) _ | refine xAa ?_ (by assumption)) | (refine xAa (a := World.drew _) ?_ (by with_reducible assumption))))⟩
  | true =>
   have e1 : Hid (R = true) := by unfold Hid; rw [HR.out, t1, t2]; rfl
   go_wp2
   go_ret
   exact ⟨xAb e1.out.symm, by (repeat (first | (with_reducible first | assumption | exact Below.refl _ _ | refine xAk ?_ _ | refine Below.drew ?_ | refine xAc ?_ _ | refine Below.setCell ?_ (by first | omega | (simp; done) | (simp; omega)) _ | refine xAa ?_ (by assumption)) | (refine xAa (a := World.drew _) ?_ (by with_reducible assumption))))⟩
def CIs (c : Con) : Prop := ∀ k ∈ c.cl, ∀ p ∈ k.start, 1 ≤ p.2 ∧ p.2 ≤ 4
theorem readyR_any (w0 : World) (b : Nat) (c : Con) (m : Cm) (r : Rd) (wl : Int → List Int) (q : Rq) (i : Nat) (k : Cla) (w : World) (hW : Rdm w0 w b c m r wl q) (hk : c.cl[i]? = some k) (hcs : xEy c) (hci : CIs c) :
  Calls Tryz.prog 105 #[.pointer (some ⟨b, 0, none⟩), .int .i64 (i : Nat)] w fun e w' => e = .returned (.bool (xCw r k)) ∧ Below w.heap.size w w' := by
 obtain ⟨R, hR⟩ : ∃ R, xCw r k = R := ⟨_, rfl⟩
 rw [hR]
 have HR : Hid (R = k.start.all fun s => xA2 s.2 (stR r s.1)) := hR.symm
 obtain ⟨kx, hkx, hkk⟩ := xC3 hW.cn.e hk
 subst hkk
 have hcond : ∀ y ∈ kx.k.start, (0 ≤ y.1 ∧ y.1 < (c.cl.length : Int)) ∧ 1 ≤ y.2 ∧ y.2 ≤ 4 := fun y hy => ⟨hcs _ (qzK hk) y hy, hci _ (qzK hk) y hy⟩
 have HC := qzL hcond
 have hik : i < c.cl.length := (qzM hk).1
 have nk := hW.cn.nk
 have no := hW.no
 have HW := qzL hW
 have hko := (hW.cn.t kx (qzK hkx)).then_ hW.hb
 have ns := hko.n
 have HT := qzL hko.s
 obtain ⟨b0, o0, eA0, hb0, hc0⟩ := xAv (hW.cn.k.below hW.hb) hkx
 have hix0 := fun W => xAp (t := 25) (size := 16) (cap := m.kc) eA0 hik (by kernel_rfl) (fun W => by kernel_rfl) W
 have d2 : w.cell? ⟨b0, o0 + i * 16 + 4, none⟩ = some (.slice kx.A kx.k.start.length kx.cap) := hc0 4 _ rfl
 have k4 : w.cell? ⟨b, 4, none⟩ = some (.slice m.k c.cl.length m.kc) := hW.g.cell 4
 clear hR hcond hcs hci hW hko hc0 hkx hk
 go_enter Tryz.func105, Tryz.ntmps105
 go_upto_region 2 with (fail)
 clear hix0 d2 k4 hb0 eA0
 go_loopw [19] (fun y WR => ∃ j : Nat, j ≤ kx.k.start.length ∧ y = .int .i64 j ∧ Hid (∀ n v, n < j → kx.k.start[n]? = some v → xA2 v.2 (stR r v.1) = true) ∧ Hid (Below w.heap.size w WR)) (fun y _ => 2000000 - (intOf y).toNat)
 case atStart => exact ⟨0, by omega, rfl, fun n u h => absurd h (by omega), qzL (Below.refl _ _)⟩
 case round =>
  obtain ⟨j, hj, rfl, hN, HBR⟩ := hrel
  by_cases hlt : j < kx.k.start.length
  ·have tj : decide ((j : Int) < (kx.k.start.length : Int)) = true := qzO (by omega)
   obtain ⟨v, hv⟩ : ∃ v, kx.k.start[j]? = some v := ⟨_, qzJ hlt⟩
   have hcv := HC.out v (qzK hv)
   obtain ⟨n, hn⟩ : ∃ n : Nat, v.1 = (n : Int) := ⟨v.1.toNat, by omega⟩
   have hnl : n < r.oc.length := by rw [HW.out.lo]; omega
   obtain ⟨y, hy⟩ : ∃ y, r.oc[n]? = some y := ⟨_, qzJ hnl⟩
   have HN2 : Hid (stR r v.1 = y.1.st) := by unfold Hid stR; rw [hn, Int.toNat_natCast, hy]
   obtain ⟨b2, o2, eA2, hb2, hc2⟩ := xAv (HT.out.below HBR.out) hv
   have hrg : wr.rangeAt b2 (o2 + j * 2) (sL v) := fun j v hv => hc2 j v hv
   have hix2 := fun W => xAp (t := 93) (size := 2) (cap := kx.cap) eA2 hlt (by kernel_rfl) (fun W => by kernel_rfl) W
   have lw := HBR.out.size
   have HV := qzL hv
   have HY := qzL hy
   clear hv hy hc2 eA2
   go_upto_region 4 with ((refine xAm 143 elS _ _ _ rfl rfl rfl rfl rfl rfl rfl rfl rfl b2 _ rfl (sL v) rfl hrg (by simp [Value.oneCell']) (by decide) (by simp) (by simp) ?_; simp only [Act.put, qzG, qzH, qzI]))
   refine xAi ?_
   intro V hV
   have gx : Blk V wr.heap.size 143 (sL v).toArray := by rw [hV]; exact Blk.new _ _ _
   have HVB : Hid (Below wr.heap.size wr V) := by rw [hV]; exact wa1 _ _
   have hRV := HW.out.then_ (xAa HBR.out HVB.out)
   have k14 : V.cell? ⟨b, 14, none⟩ = some (.slice (some ⟨q.o, 0, none⟩) r.oc.length q.oc) := hRV.g.cell 14
   obtain ⟨⟨y1, f0⟩, ⟨m1, f1⟩, ⟨m2, f2⟩, ⟨m3, f3⟩, ⟨m4, f4⟩⟩ := hRV.out HY.out
   have hix3 := fun W => xA4 (t := 52) (size := 5) (g := q.o) (cap := q.oc) hnl (by kernel_rfl) (fun W => by kernel_rfl) W
   obtain ⟨bx, ex⟩ : ∃ b, wr.heap.size = b := ⟨_, rfl⟩
   rw [ex] at gx ⊢
   have lbx : bx < V.heap.size := gx.lt
   clear hV ex hrg hix2 f0 m1 f1 m2 f2 m3 f3 m4 f4 hRV
   have x0 : V.cell? ⟨bx, 0, none⟩ = some (.int .i64 (n : Int)) := by rw [← hn]; exact gx.cell 0
   have x1 : V.cell? ⟨bx, 1, none⟩ = some (.int .i64 v.2) := gx.cell 1
   have hz : ∀ b, xA2 v.2 y.1.st = b → b = false → R = false := fun b h1 h2 => by
    rw [HR.out, List.all_eq_false]
    exact ⟨v, qzK HV.out, by rw [HN2.out, h1, h2]; simp⟩
   have hg : xA2 v.2 y.1.st = true → ∀ n' v', n' < j + 1 → kx.k.start[n']? = some v' → xA2 v'.2 (stR r v'.1) = true := fun h n' v' h1 h2 => by
    by_cases e : n' = j
    ·subst e
     rw [HV.out] at h2
     cases h2
     rw [HN2.out]; exact h
    ·exact hN.out n' v' (by omega) h2
   have HZ := qzL hz
   have HG := qzL hg
   obtain ⟨is, his⟩ : ∃ z, v.2 = z := ⟨_, rfl⟩
   rw [his] at x1 HZ HG hcv
   obtain ⟨st, hst⟩ : ∃ z, y.1.st = z := ⟨_, rfl⟩
   rw [hst] at y1 HZ HG
   clear his hst hz hg gx HT HN2 HC hn HV HY
   have h4 : is = 1 ∨ is = 2 ∨ is = 3 ∨ is = 4 := by omega
   clear hcv
   have rg0 := cR k14
   have rg1 := cR x0
   have rg2 := cR x1
   have rg3 := cR y1
   refine xAg [0, 1, 2, 3, 4, 5, 6, 7, 8] [9] (by kernel_rfl) (by kernel_rfl) pO ?_
   simp only [xAn, qzA, qzB, qzC, qzD, qzE, qzF]
   repeat (go_big_quiet_step (skip))
   refine wpQuiet_nil ?_
   intro Z hw2
   have hbZ := xAj hw2
   clear hw2 rg0 rg1 rg2 rg3
   have z1 : Z.cell? ⟨bx, 1, none⟩ = some (.int .i64 is) := (hbZ.cell (p := ⟨bx, 1, none⟩) (by show bx < _; first | omega | exact lbx)).trans x1
   go_upto_region 5 with (fail)
   have HZB : Hid (Below w.heap.size w Z) := qzL (xAa (xAa HBR.out HVB.out) hbZ)
   clear k14 x0 x1 y1 hbZ HVB
   rcases h4 with rfl | rfl | rfl | rfl
   ·cases hb : (st != 0) with
    | true =>
     have hh := qzL (HG.out (by show (st != 0) = true; exact hb))
     clear HZ HG
     go_wp2
     go_roundw
     case rel => exact ⟨j + 1, by omega, by simp, hh.out, HZB⟩
     case measure => simp [intOf]; omega
    | false =>
     have hh := qzL (HZ.out _ (by show (st != 0) = false; exact hb) rfl)
     clear HZ HG
     go_wp2
     go_ret
     exact ⟨xAb hh.out.symm, HZB.out⟩
   ·cases hb : (st == 3) with
    | true =>
     have hh := qzL (HG.out (by show (st == 3) = true; exact hb))
     clear HZ HG
     go_wp2
     go_roundw
     case rel => exact ⟨j + 1, by omega, by simp, hh.out, HZB⟩
     case measure => simp [intOf]; omega
    | false =>
     have hh := qzL (HZ.out _ (by show (st == 3) = false; exact hb) rfl)
     clear HZ HG
     go_wp2
     go_ret
     exact ⟨xAb hh.out.symm, HZB.out⟩
   ·cases hb : (st == 4) with
    | true =>
     have hh := qzL (HG.out (by show (st == 4) = true; exact hb))
     clear HZ HG
     go_wp2
     go_roundw
     case rel => exact ⟨j + 1, by omega, by simp, hh.out, HZB⟩
     case measure => simp [intOf]; omega
    | false =>
     have hh := qzL (HZ.out _ (by show (st == 4) = false; exact hb) rfl)
     clear HZ HG
     go_wp2
     go_ret
     exact ⟨xAb hh.out.symm, HZB.out⟩
   ·cases hb : (st == 5) with
    | true =>
     have hh := qzL (HG.out (by show (st == 5) = true; exact hb))
     clear HZ HG
     go_wp2
     go_roundw
     case rel => exact ⟨j + 1, by omega, by simp, hh.out, HZB⟩
     case measure => simp [intOf]; omega
    | false =>
     have hh := qzL (HZ.out _ (by show (st == 5) = false; exact hb) rfl)
     clear HZ HG
     go_wp2
     go_ret
     exact ⟨xAb hh.out.symm, HZB.out⟩
  ·have tj : decide ((j : Int) < (kx.k.start.length : Int)) = false := qzN (by omega)
   have hf : Hid (R = true) := by
    unfold Hid; rw [HR.out, List.all_eq_true]
    intro v hv
    obtain ⟨n, hn⟩ := List.getElem?_of_mem hv
    exact hN.out n v (by have := (qzM hn).1; omega) hn
   go_wp2
   go_ret
   exact ⟨xAb hf.out.symm, HBR.out⟩
def cntB (doer : Int) (k : Cla) (o : Out) (n : Cnt) : Bool :=
 if k.kind ≠ 4 ∧ o.brr ≠ doer then false else if k.kind = 1 then !decide (o.got + 1 < k.need) else if k.kind = 2 then !n.pau else true
theorem xI6 (w0 : World) (b : Nat) (c : Con) (m : Cm) (r : Rd) (wl : Int → List Int) (q : Rq) (i : Nat) (k : Cla) (x : Out × Cnt) (doer : Int) (w : World) (hW : Rdm w0 w b c m r wl q) (hk : c.cl[i]? = some k) (hx : r.oc[i]? = some x) (hgot : 0 ≤ x.1.got ∧ x.1.got ≤ 1000000) :
  Calls Tryz.prog 107 #[.pointer (some ⟨b, 0, none⟩), .int .i64 (i : Nat), .int .i64 doer] w fun e w' => EffR w0 w b c m r wl q i (xAr doer r.steps k x.1 x.2, x.2) (.bool (cntB doer k x.1 x.2)) e w' := by
 obtain ⟨Y, hY⟩ : ∃ Y, xAr doer r.steps k x.1 x.2 = Y := ⟨_, rfl⟩
 obtain ⟨B, hB⟩ : ∃ B, cntB doer k x.1 x.2 = B := ⟨_, rfl⟩
 rw [hY, hB]
 have HY := qzL hY
 have HB := qzL hB
 clear hY hB
 obtain ⟨kx, hkx, hkk⟩ := xC3 hW.cn.e hk
 subst hkk
 have hik : i < c.cl.length := (qzM hk).1
 have him : i < r.oc.length := (qzM hx).1
 have nk := hW.cn.nk
 have no := hW.no
 have HW := qzL hW
 have HX := qzL hx
 obtain ⟨b0, o0, eA0, hb0, hc0⟩ := xAv (hW.cn.k.below hW.hb) hkx
 have hix0 := fun W => xAp (t := 25) (size := 16) (cap := m.kc) eA0 hik (by kernel_rfl) (fun W => by kernel_rfl) W
 have hix := fun W => xA4 (t := 52) (size := 5) (g := q.o) (cap := q.oc) him (by kernel_rfl) (fun W => by kernel_rfl) W
 have hixk := fun W => xA4 (t := 84) (size := 2) (g := q.k) (cap := q.kc) him (by kernel_rfl) (fun W => by kernel_rfl) W
 have hrg : w.rangeAt b0 (o0 + i * 16) (kL kx) := fun j v hv => hc0 j v hv
 have k4 : w.cell? ⟨b, 4, none⟩ = some (.slice m.k c.cl.length m.kc) := hW.g.cell 4
 have HE := qzL (fun st W r' x' (h : Rdm w0 W b c m r' wl q) (hx' : r'.oc[i]? = some x') => xGq w0 b c m r' wl q i x' st W h hx')
 clear hW hx hk hkx hc0 eA0
 go_enter Tryz.func107, Tryz.ntmps107
 go_upto_region 2 with ((refine xAm 95 el16 _ _ _ rfl rfl rfl rfl rfl rfl rfl rfl rfl b0 _ rfl (kL kx) rfl hrg (by simp [Value.oneCell']) (by decide) (by simp) (by simp) ?_; simp only [Act.put, qzG, qzH, qzI]))
 refine xAi ?_
 intro V hV
 have gx : Blk V w.heap.size 95 (kL kx).toArray := by rw [hV]; exact Blk.new _ _ _
 have HVB : Hid (Below w.heap.size w V) := by rw [hV]; exact wa1 _ _
 obtain ⟨bx, ex⟩ : ∃ b, w.heap.size = b := ⟨_, rfl⟩
 have lx : Hid (w.heap.size ≤ bx ∧ bx < V.heap.size) := ⟨by omega, by rw [← ex]; exact gx.lt⟩
 have nox : Hid (bx ≠ q.o) := by unfold Hid; have := HW.out.oo.lt_.2; omega
 rw [ex] at gx ⊢
 have hRV := HW.out.then_ HVB.out
 have k14 : V.cell? ⟨b, 14, none⟩ = some (.slice (some ⟨q.o, 0, none⟩) r.oc.length q.oc) := hRV.g.cell 14
 have k13 : V.cell? ⟨b, 13, none⟩ = some (.slice (some ⟨q.k, 0, none⟩) r.oc.length q.kc) := hRV.g.cell 13
 obtain ⟨⟨y0, f0⟩, ⟨y1, f1⟩, ⟨y2, f2⟩, ⟨y3, f3⟩, ⟨y4, f4⟩⟩ := hRV.out HX.out
 obtain ⟨⟨z0, e0⟩, ⟨z1, e1⟩⟩ := hRV.cnt HX.out
 have HR := qzL hRV
 have GX := qzL gx
 clear hV ex hrg hix0 k4 y0 f0 y1 f1 y2 f2 z0 e0 e1 f4 hRV hb0
 have x0 : V.cell? ⟨bx, 0, none⟩ = some (.int .i64 kx.k.kind) := gx.cell 0
 have x3 : V.cell? ⟨bx, 3, none⟩ = some (.int .i64 kx.k.need) := gx.cell 3
 clear gx
 by_cases h4 : kx.k.kind ≠ 4 ∧ x.1.brr ≠ doer
 case pos =>
  have t4 : (kx.k.kind != 4) = true := by simpa using h4.1
  have t5 : (x.1.brr != doer) = true := by simpa using h4.2
  have eB : Hid (B = false) := by unfold Hid; rw [← HB.out]; unfold cntB; rw [if_pos h4]
  have eY : Hid (Y = x.1) := by unfold Hid; rw [← HY.out]; unfold xAr; rw [if_pos h4]
  clear h4
  go_wp2
  go_ret
  refine ⟨xAb eB.out.symm, ?_, Kept.of_below HVB.out⟩
  rw [eY.out]
  have := HR.out
  rwa [show r.wo (r.oc.set i (x.1, x.2)) = r from by
   show ({ r with oc := r.oc.set i x } : Rd) = r
   rw [show r.oc.set i x = r.oc from by
    refine List.ext_getElem? fun n => ?_
    by_cases e : i = n
    ·subst e; rw [List.getElem?_set_self him, HX.out]
    ·rw [List.getElem?_set_ne e]]]
 have H4 := qzL h4
 have hcase : kx.k.kind = 4 ∨ (kx.k.kind ≠ 4 ∧ x.1.brr = doer) := by
  by_cases e : kx.k.kind = 4
  ·exact .inl e
  ·refine .inr ⟨e, ?_⟩
   by_cases e2 : x.1.brr = doer
   ·exact e2
   ·exact absurd ⟨e, e2⟩ h4
 clear h4
 rcases hcase with hk4 | ⟨hk4, hbr⟩
 ·have t4 : (kx.k.kind != 4) = false := by simp [hk4]
  have t1 : (kx.k.kind == 1) = false := by simp [hk4]
  have t2 : (kx.k.kind == 2) = false := by simp [hk4]
  have eB : Hid (B = true) := by unfold Hid; rw [← HB.out]; unfold cntB; rw [if_neg H4.out, if_neg (by omega), if_neg (by omega)]
  have eY : Hid (Y = { x.1 with st := 3, to_ := r.steps }) := by unfold Hid; rw [← HY.out]; unfold xAr; rw [if_neg H4.out, if_neg (by omega), if_neg (by omega)]
  clear hk4
  have HEV := qzL (HE.out 3 V _ _ HR.out HX.out)
  go_wp2_with (go_at_call 108; (with_reducible refine HEV.out.mono ?_); rintro e w1 ⟨rfl, hr1, hk1⟩)
  go_ret
  refine ⟨xAb eB.out.symm, ?_, (Kept.of_below HVB.out).trans hk1⟩
  rw [eY.out]
  exact hr1
 have t4 : (kx.k.kind != 4) = true := by simpa using hk4
 have t5 : (x.1.brr != doer) = false := by simp [hbr]
 clear hbr
 by_cases h1 : kx.k.kind = 1
 ·have t1 : (kx.k.kind == 1) = true := by simp [h1]
  by_cases hn : x.1.got + 1 < kx.k.need
  ·have eB : Hid (B = false) := by unfold Hid; rw [← HB.out]; unfold cntB; rw [if_neg H4.out, if_pos h1, qzO hn]; rfl
   have eY : Hid (Y = { x.1 with got := x.1.got + 1 }) := by unfold Hid; rw [← HY.out]; unfold xAr; rw [if_neg H4.out, if_pos h1, if_pos hn]
   have tn := qzO hn
   clear hn h1 hk4
   go_upto_region 8 with (fail)
   refine xAi ?_
   intro U hU
   have HRU : Hid (Rdm w0 U b c m (r.wo (r.oc.set i ({ x.1 with got := x.1.got + 1 }, x.2))) wl q) := by rw [hU]; exact HR.out.setO (j := 3) (v := .int .i64 (x.1.got + 1)) HX.out (by omega) rfl
   have HKU : Hid (Kept w U (· = q.o)) := by rw [hU]; exact (Kept.of_below (p := (· = q.o)) HVB.out).setCell rfl
   have GU : Hid (Blk U bx 95 (kL kx).toArray) := by rw [hU]; exact GX.out.far nox.out _
   clear hU k14 k13 x0 x3 y3 f3 y4 z1
   have k14 : U.cell? ⟨b, 14, none⟩ = some (.slice (some ⟨q.o, 0, none⟩) r.oc.length q.oc) := by have := HRU.out.g.cell 14; simpa using this
   have x3 : U.cell? ⟨bx, 3, none⟩ = some (.int .i64 kx.k.need) := GU.out.cell 3
   have y3 : U.cell? ⟨q.o, i * 5 + 3, none⟩ = some (.int .i64 (x.1.got + 1)) := (HRU.out.out (x := ({ x.1 with got := x.1.got + 1 }, x.2)) (List.getElem?_set_self him)).2.2.2.1.1
   have rg0 := cR k14
   have rg1 := cR x3
   have rg2 := cR y3
   refine xAg [0, 1, 2, 3, 4, 5, 6, 7, 8, 9, 10] [] (by kernel_rfl) (by kernel_rfl) pO ?_
   simp only [xAn, qzA, qzB, qzC, qzD, qzE, qzF]
   repeat (go_big_quiet_step (skip))
   refine wpQuiet_nil ?_
   intro Z hw2
   have hbZ := xAj hw2
   clear hw2 rg0 rg1 rg2
   have HRZ : Hid (Rdm w0 Z b c m (r.wo (r.oc.set i ({ x.1 with got := x.1.got + 1 }, x.2))) wl q) := HRU.out.then_ hbZ
   have HKZ : Hid (Kept w Z (· = q.o)) := HKU.out.trans (Kept.of_below hbZ)
   clear k14 x3 y3 hbZ
   refine xAw ?_
   go_wp2
   go_ret
   refine ⟨xAb eB.out.symm, ?_, (HKZ.out)⟩
   rw [eY.out]
   exact HRZ.out
  ·have eB : Hid (B = true) := by unfold Hid; rw [← HB.out]; unfold cntB; rw [if_neg H4.out, if_pos h1, qzN hn]; rfl
   have eY : Hid (Y = { x.1 with got := x.1.got + 1, st := 3, to_ := r.steps }) := by unfold Hid; rw [← HY.out]; unfold xAr; rw [if_neg H4.out, if_pos h1, if_neg hn]
   have tn := qzN hn
   clear hn h1 hk4
   go_upto_region 8 with (fail)
   refine xAi ?_
   intro U hU
   have HRU : Hid (Rdm w0 U b c m (r.wo (r.oc.set i ({ x.1 with got := x.1.got + 1 }, x.2))) wl q) := by rw [hU]; exact HR.out.setO (j := 3) (v := .int .i64 (x.1.got + 1)) HX.out (by omega) rfl
   have HKU : Hid (Kept w U (· = q.o)) := by rw [hU]; exact (Kept.of_below (p := (· = q.o)) HVB.out).setCell rfl
   have GU : Hid (Blk U bx 95 (kL kx).toArray) := by rw [hU]; exact GX.out.far nox.out _
   clear hU k14 k13 x0 x3 y3 f3 y4 z1
   have k14 : U.cell? ⟨b, 14, none⟩ = some (.slice (some ⟨q.o, 0, none⟩) r.oc.length q.oc) := by have := HRU.out.g.cell 14; simpa using this
   have x3 : U.cell? ⟨bx, 3, none⟩ = some (.int .i64 kx.k.need) := GU.out.cell 3
   have y3 : U.cell? ⟨q.o, i * 5 + 3, none⟩ = some (.int .i64 (x.1.got + 1)) := (HRU.out.out (x := ({ x.1 with got := x.1.got + 1 }, x.2)) (List.getElem?_set_self him)).2.2.2.1.1
   have rg0 := cR k14
   have rg1 := cR x3
   have rg2 := cR y3
   refine xAg [0, 1, 2, 3, 4, 5, 6, 7, 8, 9, 10] [] (by kernel_rfl) (by kernel_rfl) pO ?_
   simp only [xAn, qzA, qzB, qzC, qzD, qzE, qzF]
   repeat (go_big_quiet_step (skip))
   refine wpQuiet_nil ?_
   intro Z hw2
   have hbZ := xAj hw2
   clear hw2 rg0 rg1 rg2
   have HRZ : Hid (Rdm w0 Z b c m (r.wo (r.oc.set i ({ x.1 with got := x.1.got + 1 }, x.2))) wl q) := HRU.out.then_ hbZ
   have HKZ : Hid (Kept w Z (· = q.o)) := HKU.out.trans (Kept.of_below hbZ)
   clear k14 x3 y3 hbZ
   refine xAw ?_
   have hxz : (r.wo (r.oc.set i ({ x.1 with got := x.1.got + 1 }, x.2))).oc[i]? = some ({ x.1 with got := x.1.got + 1 }, x.2) := List.getElem?_set_self him
   have HEZ := qzL (HE.out 3 Z _ _ HRZ.out hxz)
   clear hxz
   go_wp2_with (go_at_call 108; (with_reducible refine HEZ.out.mono ?_); rintro e w1 ⟨rfl, hr1, hk1⟩)
   go_ret
   refine ⟨xAb eB.out.symm, ?_, HKZ.out.trans hk1⟩
   rw [eY.out]
   have h9 := hr1
   have e9 : ∀ (a d : Out × Cnt), (r.oc.set i a).set i d = r.oc.set i d := fun a d => List.set_set _
   unfold Rd.wo at h9 ⊢
   simp only [e9] at h9
   exact h9
 have t1 : (kx.k.kind == 1) = false := by simp [h1]
 by_cases h2 : kx.k.kind = 2
 ·have t2 : (kx.k.kind == 2) = true := by simp [h2]
  obtain ⟨P, hP⟩ : ∃ P, x.2.pau = P := ⟨_, rfl⟩
  rw [hP] at z1
  have HP := qzL hP
  clear hP
  cases P with
  | true =>
   have eB : Hid (B = false) := by unfold Hid; rw [← HB.out]; unfold cntB; rw [if_neg H4.out, if_neg h1, if_pos h2, HP.out]; rfl
   have eY : Hid (Y = x.1) := by unfold Hid; rw [← HY.out]; unfold xAr; rw [if_neg H4.out, if_neg h1, if_pos h2, if_pos HP.out]
   clear h1 h2 hk4
   go_wp2
   go_ret
   refine ⟨xAb eB.out.symm, ?_, Kept.of_below HVB.out⟩
   rw [eY.out]
   have := HR.out
   rwa [show r.wo (r.oc.set i (x.1, x.2)) = r from by
    show ({ r with oc := r.oc.set i x } : Rd) = r
    rw [show r.oc.set i x = r.oc from by
     refine List.ext_getElem? fun n => ?_
     by_cases e : i = n
     ·subst e; rw [List.getElem?_set_self him, HX.out]
     ·rw [List.getElem?_set_ne e]]]
  | false =>
   have eB : Hid (B = true) := by unfold Hid; rw [← HB.out]; unfold cntB; rw [if_neg H4.out, if_neg h1, if_pos h2, HP.out]; rfl
   have eY : Hid (Y = { x.1 with st := 4, to_ := r.steps }) := by unfold Hid; rw [← HY.out]; unfold xAr; rw [if_neg H4.out, if_neg h1, if_pos h2, if_neg (by rw [HP.out]; decide)]
   clear h1 h2 hk4
   have HEV := qzL (HE.out 4 V _ _ HR.out HX.out)
   go_wp2_with (go_at_call 108; (with_reducible refine HEV.out.mono ?_); rintro e w1 ⟨rfl, hr1, hk1⟩)
   go_ret
   refine ⟨xAb eB.out.symm, ?_, (Kept.of_below HVB.out).trans hk1⟩
   rw [eY.out]
   exact hr1
 have t2 : (kx.k.kind == 2) = false := by simp [h2]
 have eB : Hid (B = true) := by unfold Hid; rw [← HB.out]; unfold cntB; rw [if_neg H4.out, if_neg h1, if_neg h2]
 have eY : Hid (Y = { x.1 with st := 3, to_ := r.steps }) := by unfold Hid; rw [← HY.out]; unfold xAr; rw [if_neg H4.out, if_neg h1, if_neg h2]
 clear h1 h2 hk4
 have HEV := qzL (HE.out 3 V _ _ HR.out HX.out)
 go_wp2_with (go_at_call 108; (with_reducible refine HEV.out.mono ?_); rintro e w1 ⟨rfl, hr1, hk1⟩)
 go_ret
 refine ⟨xAb eB.out.symm, ?_, (Kept.of_below HVB.out).trans hk1⟩
 rw [eY.out]
 exact hr1
theorem off_test (c : Con) (m : Cm) (bc bd i : Nat) (x day : Int) (w : World) (hC : Blk w bc 27 (coA c m)) (hd : Blk w bd 3 #[.int .i64 day]) (ho : Seg w w.heap.size 1 eI m.o c.off) (hx : c.off[i]? = some x) (_no : c.off.length ≤ 1000000) :
  Calls Tryz.prog 83 #[.int .i64 (i : Nat), .pointer (some ⟨bc, 0, none⟩), .pointer (some ⟨bd, 0, none⟩)] w fun e w' => e = .returned (.bool (decide (day ≤ x))) ∧ Below w.heap.size w w' := by
 have hlt : i < c.off.length := (qzM hx).1
 obtain ⟨b0, o0, e0, hb0, hc0⟩ := xAv ho hx
 have hix := fun W => xAp (t := 22) (size := 1) (cap := m.oc) (len := c.off.length) e0 hlt (by kernel_rfl) (fun W => by kernel_rfl) W
 have x0 : w.cell? ⟨b0, o0 + i, none⟩ = some (.int .i64 x) := by have := hc0 0 _ rfl; simpa using this
 have k6 : w.cell? ⟨bc, 6, none⟩ = some (.slice m.o c.off.length m.oc) := hC.cell 6
 have d0 : w.cell? ⟨bd, 0, none⟩ = some (.int .i64 day) := hd.cell 0
 clear hC hd ho hx hc0 e0
 go_enter Tryz.func83, Tryz.ntmps83
 go_upto_region 1 with (fail)
 have rg0 := cR x0
 have rg1 := cR k6
 have rg2 := cR d0
 refine xAg [0, 1, 2, 3, 4, 5, 6] [7] (by kernel_rfl) (by kernel_rfl) pO ?_
 simp only [xAn, qzA, qzB, qzC, qzD, qzE, qzF]
 repeat (go_big_quiet_step (skip))
 refine wpQuiet_nil ?_
 intro X hw2
 have hbX := xAj hw2
 clear hw2 rg0 rg1 rg2
 clear x0 k6 d0
 go_wp2
 go_ret
 exact ⟨rfl, hbX⟩
theorem off_search (c : Con) (m : Cm) (bc bd : Nat) (day : Int) (w : World) (hC : Blk w bc 27 (coA c m)) (hd : Blk w bd 3 #[.int .i64 day]) (ho : Seg w w.heap.size 1 eI m.o c.off) (hp : c.off.Pairwise (· < ·)) (no : c.off.length ≤ 1000000) :
  Calls Tryz.prog 82 #[.int .i64 (c.off.length : Nat), .func (.func 83) #[] #[.pointer (some ⟨bc, 0, none⟩), .pointer (some ⟨bd, 0, none⟩)]] w fun e w' => (∃ i : Nat, e = .returned (.int .i64 (i : Nat)) ∧ i ≤ c.off.length ∧ (∀ k y, k < i → c.off[k]? = some y → y < day) ∧ (∀ k y, i ≤ k → c.off[k]? = some y → day ≤ y)) ∧ Below w.heap.size w w' := by
 have HT := qzL (fun i x W (hb : Below w.heap.size w W) (hx : c.off[i]? = some x) => off_test c m bc bd i x day W (hC.then_ hb) (hd.then_ hb) ((ho.below hb).more hb.size) hx no)
 have HP := qzL hp
 clear hC hd ho hp
 go_enter Tryz.func82, Tryz.ntmps82
 go_wp2
 go_loopw [5, 6] (fun x y wr => ∃ i j : Nat, i ≤ j ∧ j ≤ c.off.length ∧ x = .int .i64 i ∧ y = .int .i64 j ∧ Hid ((∀ k y, k < i → c.off[k]? = some y → y < day) ∧ (∀ k y, j ≤ k → c.off[k]? = some y → day ≤ y)) ∧ Below w.heap.size w wr) (fun x y _ => (intOf y).toNat - (intOf x).toNat)
 case atStart => exact ⟨0, c.off.length, by omega, by omega, rfl, rfl, ⟨fun q _ hq => by omega, fun q y hq h => by have := (qzM h).1; omega⟩, Below.refl _ _⟩
 case round =>
  obtain ⟨i, j, hij, hj, rfl, rfl, hN, hbr⟩ := hrel
  by_cases hlt : i < j
  ·obtain ⟨d, hd⟩ : ∃ d : Nat, d = (i + j) / 2 := ⟨_, rfl⟩
   have q1 : i ≤ d := by omega
   have q2 : d < j := by omega
   have HE := qzL (show ((i : Int) + (j : Int)) / 2 = (d : Int) by omega)
   clear hd
   go_upto_region 4 with (fail)
   rw [HE.out]
   obtain ⟨x, hx⟩ : ∃ x, c.off[d]? = some x := ⟨_, qzJ (by omega)⟩
   have HK := qzL (HT.out d x _ hbr hx)
   have HX := qzL hx
   clear hx
   rcases hbb (decide (day ≤ x)) with ht | ht
   ·rw [ht] at HK
    go_wp2_with (go_at_call 83; with_reducible refine HK.out.mono ?_; rintro e w1 ⟨rfl, hb1⟩)
    go_roundw
    case rel =>
     refine ⟨i, d, by omega, by omega, rfl, rfl, ⟨hN.out.1, fun k y hk hy => ?_⟩, xAa hbr hb1⟩
     have h1 := of_decide_eq_true ht
     rcases Nat.lt_or_ge d k with q | q
     ·have := xCy HP.out HX.out hy q
      omega
     ·obtain rfl : k = d := by omega
      have := HX.out.symm.trans hy
      cases this
      exact h1
    case measure => simp [intOf]; omega
   ·rw [ht] at HK
    go_wp2_with (go_at_call 83; with_reducible refine HK.out.mono ?_; rintro e w1 ⟨rfl, hb1⟩)
    go_roundw
    case rel =>
     refine ⟨d + 1, j, by omega, hj, by go_num, rfl, ⟨fun k y hk hy => ?_, hN.out.2⟩, xAa hbr hb1⟩
     have h1 := of_decide_eq_false ht
     rcases Nat.lt_or_ge k d with q | q
     ·have := xCy HP.out hy HX.out q
      omega
     ·obtain rfl : k = d := by omega
      have := HX.out.symm.trans hy
      cases this
      omega
    case measure => simp [intOf]; omega
  ·obtain rfl : i = j := by omega
   go_wp2
   go_ret
   exact ⟨⟨i, rfl, hj, hN.out.1, hN.out.2⟩, hbr⟩
theorem freeR_any (c : Con) (m : Cm) (bc : Nat) (day : Int) (w : World) (hC : Blk w bc 27 (coA c m)) (ho : Seg w w.heap.size 1 eI m.o c.off) (hp : c.off.Pairwise (· < ·)) (no : c.off.length ≤ 1000000) :
  Calls Tryz.prog 81 #[.int .i64 day, .pointer (some ⟨bc, 0, none⟩)] w fun e w' => e = .returned (.bool (decide (day ∈ c.off))) ∧ Below w.heap.size w w' := by
 obtain ⟨R, hR⟩ : ∃ R, decide (day ∈ c.off) = R := ⟨_, rfl⟩
 rw [hR]
 have HR := qzL hR
 have HS := qzL (fun bd W (hb : Below w.heap.size w W) (hd : Blk W bd 3 #[.int .i64 day]) => off_search c m bc bd day W (hC.then_ hb) hd ((ho.below hb).more hb.size) hp no)
 have HC := qzL hC
 have HO := qzL ho
 have HP := qzL hp
 clear hC ho hp hR
 go_enter Tryz.func81, Tryz.ntmps81
 go_upto_region 1 with (fail)
 refine xAi ?_
 intro X hX
 have gd : Blk X w.heap.size 3 #[.int .i64 day] := by rw [hX]; exact Blk.new _ _ _
 have HB : Hid (Below w.heap.size w X) := by rw [hX]; exact wa1 _ _
 obtain ⟨bd, ed⟩ : ∃ b, w.heap.size = b := ⟨_, rfl⟩
 rw [ed] at gd ⊢
 have k6 : X.cell? ⟨bc, 6, none⟩ = some (.slice m.o c.off.length m.oc) := (HC.out.then_ HB.out).cell 6
 have HSX := qzL (HS.out bd X HB.out gd)
 have GD := qzL gd
 clear hX ed gd HS
 go_upto_region 2 with (go_at_call 82; (with_reducible refine HSX.out.mono ?_); rintro e w1 ⟨⟨n, rfl, hn, hlo, hhi⟩, hb1⟩)
 have k6' : w1.cell? ⟨bc, 6, none⟩ = some (.slice m.o c.off.length m.oc) := ((HC.out.then_ HB.out).then_ hb1).cell 6
 have d0 : w1.cell? ⟨bd, 0, none⟩ = some (.int .i64 day) := (GD.out.then_ hb1).cell 0
 have HB1 := qzL (xAa HB.out hb1)
 have HLO := qzL hlo
 have HHI := qzL hhi
 clear k6 hb1 HSX hlo hhi
 by_cases hlt : n < c.off.length
 ·obtain ⟨x, hx⟩ : ∃ x, c.off[n]? = some x := ⟨_, qzJ hlt⟩
  obtain ⟨b0, o0, e0, hb0, hc0⟩ := xAv (HO.out.below HB1.out) hx
  have hix := fun W => xAp (t := 22) (size := 1) (cap := m.oc) (len := c.off.length) e0 hlt (by kernel_rfl) (fun W => by kernel_rfl) W
  have x0 : w1.cell? ⟨b0, o0 + n, none⟩ = some (.int .i64 x) := by have := hc0 0 _ rfl; simpa using this
  have HX := qzL hx
  have tl : decide ((n : Int) < (c.off.length : Int)) = true := qzO (by omega)
  clear hx hc0 e0
  have hr : Hid (R = (x == day)) := by
   unfold Hid
   rw [← HR.out]
   rcases hbb (x == day) with h | h
   ·rw [h]; rw [eq_of_beq h] at HX; exact qzO (qzK HX.out)
   ·rw [h]
    refine qzN fun hm => ?_
    obtain ⟨k, hk⟩ := List.getElem?_of_mem hm
    rcases Nat.lt_trichotomy k n with q | q | q
    ·have := HLO.out k day q hk; omega
    ·subst q
     have := HX.out.symm.trans hk
     cases this
     simp at h
    ·have h1 := xCy HP.out HX.out hk q
     have h2 := HHI.out n x (Nat.le_refl _) HX.out
     omega
  have rg0 := cR x0
  have rg1 := cR k6'
  have rg2 := cR d0
  refine xAg [0, 1, 2, 3, 4, 5, 6, 7, 8, 9, 10, 11, 12, 13] [14] (by kernel_rfl) (by kernel_rfl) pO ?_
  simp only [xAn, qzA, qzB, qzC, qzD, qzE, qzF]
  repeat (go_big_quiet_step (skip))
  refine wpQuiet_nil ?_
  intro Z hw2
  have hbZ := xAj hw2
  clear hw2 rg0 rg1 rg2
  clear x0 k6' d0
  go_wp2
  go_ret
  exact ⟨xAb hr.out.symm, xAa HB1.out hbZ⟩
 ·have tl : decide ((n : Int) < (c.off.length : Int)) = false := qzN (by omega)
  have hr : Hid (R = false) := by
   unfold Hid
   rw [← HR.out]
   refine qzN fun hm => ?_
   obtain ⟨k, hk⟩ := List.getElem?_of_mem hm
   have := HLO.out k day (by have := (qzM hk).1; omega) hk
   omega
  have rg0 := cR k6'
  have rg1 := cR d0
  refine xAg [0, 1, 2, 3, 4, 5, 6, 7, 8, 9, 10, 11, 12, 13] [14] (by kernel_rfl) (by kernel_rfl) pO ?_
  simp only [xAn, qzA, qzB, qzC, qzD, qzE, qzF]
  repeat (go_big_quiet_step (skip))
  refine wpQuiet_nil ?_
  intro Z hw2
  have hbZ := xAj hw2
  clear hw2 rg0 rg1
  clear k6' d0
  go_wp2
  go_ret
  exact ⟨xAb hr.out.symm, xAa HB1.out hbZ⟩
section
variable {w0 w w' : World} {b : Nat} {c : Con} {m : Cm} {r : Rd} {wl : Int → List Int} {q : Rq}
theorem Rdm.updB (h : Rdm w0 w b c m r wl q) (u : Upd w w' b) {r' : Rd} (hg : Blk w' b 86 (rdA c m r' q)) (e1 : r'.hol = r.hol) (e2 : r'.hap = r.hap) (e3 : r'.oc = r.oc) : Rdm w0 w' b c m r' wl q :=
 ⟨hg, h.gc.upd u h.bb.symm, by rw [e1]; exact h.oh.upd u (by intro k hk; cases hk; exact h.bh.symm), by rw [e2]; exact h.oa.upd u (by intro k hk; cases hk; exact h.ba.symm), by rw [e3]; exact h.ok.upd u (by intro k hk; cases hk; exact h.bk.symm), by rw [e3]; exact h.oo.upd u (by intro k hk; cases hk; exact h.bo.symm),
  h.mp.keep (u.f _ h.bm.symm), fun k => (h.ol k).upd u fun x hx => h.rowB ⟨k, hx⟩, h.ap, h.ah, h.hb.trans (u.b _ h.lb.1), h.lb, h.bb, h.cn, by rw [e3]; exact h.lo, by rw [e1]; exact h.lh, by rw [e2]; exact h.la⟩
theorem Rdm.setDay (h : Rdm w0 w b c m r wl q) (v : Int) : Rdm w0 (w.setCell ⟨b, 8, none⟩ (.int .i64 v)) b c m { r with day := v } wl q := h.updB ((Upd.refl w b).setCell 8 _) (h.g.set_ 8 _) rfl rfl rfl
theorem Rdm.setSteps (h : Rdm w0 w b c m r wl q) (v : Int) : Rdm w0 (w.setCell ⟨b, 7, none⟩ (.int .i64 v)) b c m { r with steps := v } wl q := h.updB ((Upd.refl w b).setCell 7 _) (h.g.set_ 7 _) rfl rfl rfl
theorem Rdm.setH (h : Rdm w0 w b c m r wl q) {n : Nat} (v : Int) (hn : n < r.hol.length) : Rdm w0 (w.setCell ⟨q.h, n, none⟩ (.int .i64 v)) b c m { r with hol := r.hol.set n v } wl q := by
 have e : (r.hol.set n v).length = r.hol.length := List.length_set
 obtain ⟨x, hx⟩ : ∃ x, r.hol[n]? = some x := ⟨_, qzJ hn⟩
 have u := (Upd.refl w q.h).setCell n (.int .i64 v)
 refine ⟨?_, h.gc.upd u h.ch, ?_, h.oa.upd u (by intro k hk; cases hk; exact h.ha.symm), h.ok.upd u (by intro k hk; cases hk; exact h.hk.symm), h.oo.upd u (by intro k hk; cases hk; exact h.ho.symm), h.mp.keep (u.f _ h.mh), fun k => (h.ol k).upd u fun x hx => h.rowH ⟨k, hx⟩, h.ap, h.ah, h.hb.trans (u.b _ h.oh.lt_.1), h.lb, h.bb, h.cn, h.lo, e.trans h.lh, h.la⟩
 ·have h2 := h.g.upd u h.bh
  unfold rdA at h2 ⊢
  rw [show ({ r with hol := r.hol.set n v } : Rd).hol.length = r.hol.length from e]
  exact h2
 ·have h2 := h.oh.setAt xAz rfl (k := n) (j := 0) (y := v) (u := .int .i64 v) hx (by omega) rfl
  rw [show ({ r with hol := r.hol.set n v } : Rd).hol.length = r.hol.length from e]
  simpa using h2
theorem Rdm.setA (h : Rdm w0 w b c m r wl q) {n : Nat} (v : Bool) (hn : n < r.hap.length) : Rdm w0 (w.setCell ⟨q.a, n, none⟩ (.bool v)) b c m { r with hap := r.hap.set n v } wl q := by
 have e : (r.hap.set n v).length = r.hap.length := List.length_set
 obtain ⟨x, hx⟩ : ∃ x, r.hap[n]? = some x := ⟨_, qzJ hn⟩
 have u := (Upd.refl w q.a).setCell n (.bool v)
 refine ⟨?_, h.gc.upd u h.ca, h.oh.upd u (by intro k hk; cases hk; exact h.ha), ?_, h.ok.upd u (by intro k hk; cases hk; exact h.ak.symm), h.oo.upd u (by intro k hk; cases hk; exact h.ao.symm), h.mp.keep (u.f _ h.ma), fun k => (h.ol k).upd u fun x hx => h.rowA ⟨k, hx⟩, h.ap, h.ah, h.hb.trans (u.b _ h.oa.lt_.1), h.lb, h.bb, h.cn, h.lo, h.lh, e.trans h.la⟩
 ·have h2 := h.g.upd u h.ba
  unfold rdA at h2 ⊢
  rw [show ({ r with hap := r.hap.set n v } : Rd).hap.length = r.hap.length from e]
  exact h2
 ·have h2 := h.oa.setAt xBj rfl (k := n) (j := 0) (y := v) (u := .bool v) hx (by omega) rfl
  rw [show ({ r with hap := r.hap.set n v } : Rd).hap.length = r.hap.length from e]
  simpa using h2
theorem Rdm.holAt (h : Rdm w0 w b c m r wl q) {n : Nat} {v : Int} (hn : r.hol[n]? = some v) : w.cell? ⟨q.h, n, none⟩ = some (.int .i64 v) ∧ w.frozen? ⟨q.h, n, none⟩ = false := by
 have := h.oh.getAt xAz rfl hn (j := 0) (by omega)
 simpa [eI] using this
theorem Rdm.hapAt (h : Rdm w0 w b c m r wl q) {n : Nat} {v : Bool} (hn : r.hap[n]? = some v) : w.cell? ⟨q.a, n, none⟩ = some (.bool v) ∧ w.frozen? ⟨q.a, n, none⟩ = false := by
 have := h.oa.getAt xBj rfl hn (j := 0) (by omega)
 simpa [eB] using this
theorem Rdm.nh (h : Rdm w0 w b c m r wl q) : r.hol.length ≤ 1000000 := by rw [h.lh]; exact h.cn.nh
theorem Rdm.na (h : Rdm w0 w b c m r wl q) : r.hap.length ≤ 1000000 := by rw [h.la]; exact h.cn.na
end
def mixP (f : Cla → Out × Cnt → Out × Cnt) (cl : List Cla) (l : List (Out × Cnt)) (i : Nat) : List (Out × Cnt) := (List.zipWith f cl l).take i ++ l.drop i
section
variable {f : Cla → Out × Cnt → Out × Cnt} {cl : List Cla} {l : List (Out × Cnt)} {i : Nat}
theorem xEi : mixP f cl l 0 = l := rfl
theorem mixP_len (h : l.length = cl.length) (hi : i ≤ cl.length) : (mixP f cl l i).length = l.length := by
 unfold mixP
 rw [List.length_append, List.length_take, List.length_zipWith, List.length_drop]
 omega
theorem xFi (h : l.length = cl.length) (hi : i < cl.length) : (mixP f cl l i)[i]? = l[i]? := by
 unfold mixP
 have e : ((List.zipWith f cl l).take i).length = i := by rw [List.length_take, List.length_zipWith]; omega
 rw [List.getElem?_append_right (by omega), e, Nat.sub_self, List.getElem?_drop, Nat.add_zero]
theorem xC0 {k : Cla} {x : Out × Cnt} (h : l.length = cl.length) (hk : cl[i]? = some k) (hx : l[i]? = some x) : mixP f cl l (i + 1) = (mixP f cl l i).set i (f k x) := by
 have hi : i < cl.length := (qzM hk).1
 have e : ((List.zipWith f cl l).take i).length = i := by rw [List.length_take, List.length_zipWith]; omega
 unfold mixP
 rw [List.set_append_right _ _ (by omega), e, Nat.sub_self, List.take_add_one, List.getElem?_zipWith, hk, hx]
 have hd : l.drop i = x :: l.drop (i + 1) := by
  rw [List.drop_eq_getElem_cons (by omega)]
  rw [qzJ (by omega)] at hx
  injection hx with hx
  rw [hx]
 rw [hd]
 simp
theorem xHu {k : Cla} {x : Out × Cnt} (h : l.length = cl.length) (hk : cl[i]? = some k) (hx : l[i]? = some x) (hf : f k x = x) : mixP f cl l (i + 1) = mixP f cl l i := by
 rw [xC0 h hk hx, hf]
 exact xDc ((xFi h (qzM hk).1).trans hx)
theorem xE0 (h : l.length = cl.length) : mixP f cl l cl.length = List.zipWith f cl l := by
 unfold mixP
 rw [List.take_of_length_le (by rw [List.length_zipWith]; omega), List.drop_eq_nil_of_le (by omega), List.append_nil]
end
structure EndS (f : Cla → Out × Cnt → Out × Cnt) (cl : List Cla) (l : List (Out × Cnt)) (i : Nat) (L : List Int) : Prop where
 m : ∀ (j : Nat) k p, j < i → cl[j]? = some k → l[j]? = some p → p.1.runs = true → (f k p).1.runs = false → (j : Int) ∈ L
 b : ∀ x ∈ L, ∃ n : Nat, x = (n : Int) ∧ n < i
 n : L.length ≤ i
theorem EndS.zero {f : Cla → Out × Cnt → Out × Cnt} {cl : List Cla} {l : List (Out × Cnt)} : EndS f cl l 0 [] := ⟨fun _ _ _ h => absurd h (by omega), fun x h => (by cases h), Nat.le_refl _⟩
theorem EndS.skip {f : Cla → Out × Cnt → Out × Cnt} {cl : List Cla} {l : List (Out × Cnt)} {i : Nat} {L : List Int} {k : Cla} {p : Out × Cnt} (h : EndS f cl l i L) (hk : cl[i]? = some k) (hp : l[i]? = some p) (hf : p.1.runs = true → (f k p).1.runs = true) : EndS f cl l (i + 1) L := by
 refine ⟨fun j k' p' hj h1 h2 h3 h4 => ?_, fun x hx => ?_, by have := h.n; omega⟩
 ·by_cases e : j = i
  ·subst e
   rw [hk] at h1
   rw [hp] at h2
   cases h1
   cases h2
   rw [hf h3] at h4
   cases h4
  ·exact h.m j k' p' (by omega) h1 h2 h3 h4
 ·obtain ⟨n, e, hn⟩ := h.b x hx
  exact ⟨n, e, by omega⟩
theorem EndS.next {f : Cla → Out × Cnt → Out × Cnt} {cl : List Cla} {l : List (Out × Cnt)} {i : Nat} {L : List Int} (h : EndS f cl l i L) : EndS f cl l (i + 1) (L ++ [(i : Int)]) := by
 refine ⟨fun j k' p' hj h1 h2 h3 h4 => ?_, fun x hx => ?_, by rw [List.length_append]; have := h.n; simp; omega⟩
 ·by_cases e : j = i
  ·subst e; simp
  ·exact List.mem_append_left _ (h.m j k' p' (by omega) h1 h2 h3 h4)
 ·rcases List.mem_append.1 hx with hx | hx
  ·obtain ⟨n, e, hn⟩ := h.b x hx
   exact ⟨n, e, by omega⟩
  ·exact ⟨i, List.mem_singleton.1 hx, by omega⟩
theorem EndS.all {f : Cla → Out × Cnt → Out × Cnt} {c : Con} {r r' : Rd} {L : List Int} (h : EndS f c.cl r.oc c.cl.length L) (ho : r'.oc = List.zipWith f c.cl r.oc) : EndL c r r' L := by
 refine ⟨fun j p p' h1 h2 h3 h4 => ?_, h.b, h.n⟩
 rw [ho, List.getElem?_zipWith, h1] at h2
 cases hk : c.cl[j]? with
 | none => rw [hk] at h2; simp at h2
 | some k =>
  rw [hk] at h2
  cases h2
  exact h.m j k p (qzM hk).1 hk h1 h3 h4
structure RLp (f : Cla → Out × Cnt → Out × Cnt) (w0 w W : World) (b : Nat) (c : Con) (m : Cm) (r : Rd) (wl : Int → List Int) (q : Rq) (p : Nat → Prop) (N : Nat) (i : Nat) (v : Value) (L : List Int) : Prop where
 rd : Rdm w0 W b c m (r.wo (mixP f c.cl r.oc i)) wl q
 k : Kept w W p
 o : Own W N 3 1 eI v L
 e : EndS f c.cl r.oc i L
section
variable {f : Cla → Out × Cnt → Out × Cnt} {w0 w W W' : World} {b : Nat} {c : Con} {m : Cm} {r : Rd} {wl : Int → List Int} {q : Rq} {p : Nat → Prop} {N i : Nat} {v v' : Value} {L : List Int}
theorem RLp.skip (h : RLp f w0 w W b c m r wl q p N i v L) (hlo : r.oc.length = c.cl.length) {k : Cla} {x : Out × Cnt} (hk : c.cl[i]? = some k) (hx : r.oc[i]? = some x) (hf : f k x = x) (hb : Below W.heap.size W W') : RLp f w0 w W' b c m r wl q p N (i + 1) v L :=
 ⟨by rw [xHu hlo hk hx hf]; exact h.rd.then_ hb, h.k.trans (Kept.of_below hb), h.o.below hb, h.e.skip hk hx (fun e => by rw [hf]; exact e)⟩
theorem RLp.chg (h : RLp f w0 w W b c m r wl q p N i v L) (hlo : r.oc.length = c.cl.length) {k : Cla} {x : Out × Cnt} (hk : c.cl[i]? = some k) (hx : r.oc[i]? = some x) {y : Out × Cnt} (hR : Rdm w0 W' b c m (r.wo ((mixP f c.cl r.oc i).set i y)) wl q) (hy : y = f k x) (hK : Kept W W' p) (hO : Own W' N 3 1 eI v L) (hr : (f k x).1.runs = true) : RLp f w0 w W' b c m r wl q p N (i + 1) v L :=
 ⟨by rw [xC0 hlo hk hx, ← hy]; exact hR, h.k.trans hK, hO, h.e.skip hk hx (fun _ => hr)⟩
end
def RetD (w0 w : World) (b : Nat) (c : Con) (m : Cm) (r r' : Rd) (wl : Int → List Int) (q : Rq) (p : Nat → Prop) (e : Ending) (w' : World) : Prop :=
 ∃ v L, e = .returned v ∧ Rdm w0 w' b c m r' wl q ∧ Kept w w' p ∧ Own w' w.heap.size 3 1 eI v L ∧ EndL c r r' L
theorem Kept.grown {w w' : World} {v : Value} (h : w.grownBy w' v.ownBlock) : Kept w w' (fun x => v.ownBlock = some x) :=
 ⟨fun B hB hs => ⟨h.os, h.tape, h.output, h.size, fun i hi => h.block i (by omega) (fun e => by have := hB i e.symm; omega)⟩, fun x hx hp => h.block x hx (fun e => hp e.symm)⟩
theorem Kept.newer {w W W' : World} {p q : Nat → Prop} (h : Kept w W p) (k : Kept W W' q) (hq : ∀ x, q x → w.heap.size ≤ x) : Kept w W' p :=
 ⟨fun B hB hs => (h.b B hB hs).trans (k.b B (fun x hx => by have := hq x hx; omega) (by have := h.size; omega)), fun x hx hp => (k.k x (by have := h.size; omega) (fun hq' => by have := hq x hq'; omega)).trans (h.k x hx hp)⟩
theorem Own.keepP {α : Type} {w w' : World} {N : Nat} {T : TypeId} {size : Nat} {enc : α → List Value} {v : Value} {xs : List α} {p : Nat → Prop} (h : Own w N T size enc v xs) (hk : Kept w w' p) (hp : ∀ x, p x → x < N) : Own w' N T size enc v xs := by
 refine ⟨h.1, ?_⟩
 rcases h.2 with h2 | ⟨g', cap', cur, hv, hg', hh, r⟩
 ·exact .inl h2
 ·exact .inr ⟨g', cap', cur, hv, hg', by rw [hk.k g' (Array.getElem?_eq_some_iff.1 hh).1 (fun e => by have := hp _ e; omega)]; exact hh, r⟩
theorem RLp.app {f : Cla → Out × Cnt → Out × Cnt} {w0 w W w1 w2 : World} {b : Nat} {c : Con} {m : Cm} {r : Rd} {wl : Int → List Int} {q : Rq} {p : Nat → Prop} {i : Nat} {v v' : Value} {L : List Int} {o : Obj}
  (h : RLp f w0 w W b c m r wl q p w.heap.size i v L) (hq : QB q b w.heap.size) (h0 : w0.heap.size ≤ w.heap.size) (hlo : r.oc.length = c.cl.length) {k : Cla} {x : Out × Cnt} (hk : c.cl[i]? = some k) (hx : r.oc[i]? = some x) {y : Out × Cnt}
  (hR : Rdm w0 w1 b c m (r.wo ((mixP f c.cl r.oc i).set i y)) wl q) (hy : y = f k x) (hK : Kept W w1 p) (hO : Own w1 w.heap.size 3 1 eI v L) (hO2 : Own w2 w.heap.size 3 1 eI v' (L ++ [(i : Int)])) (hb2 : Below w.heap.size (w1.alloc o) w2) (hg2 : (w1.alloc o).grownBy w2 v.ownBlock) : RLp f w0 w w2 b c m r wl q p w.heap.size (i + 1) v' (L ++ [(i : Int)]) := by
 have lw : w.heap.size ≤ w1.heap.size := by have := h.k.size; have := hK.size; omega
 have hb : Below w.heap.size w1 w2 := Below.trans ((Below.refl _ _).alloc lw _) hb2
 refine ⟨by rw [xC0 hlo hk hx, ← hy]; exact hR.below hq hb h0, ?_, hO2, h.e.next⟩
 refine ((h.k.trans hK).trans (Kept.of_below (wa1 w1 o))).newer (Kept.grown hg2) fun x hx => ?_
 exact (World.ownsRow.lt hO x hx).1
end Go.Proofs.YtffceokjeonpcaaGreatDoor
