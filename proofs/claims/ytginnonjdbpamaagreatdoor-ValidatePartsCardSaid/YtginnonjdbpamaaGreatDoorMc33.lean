/- Contracts of functions and plain laws, joined: Ur, Wa3, Wh2. -/
import Derived.Test.YtginnonjdbpamaaGreatDoorMc32
import Derived.Test.YtginnonjdbpamaaGreatDoorMc13
import Derived.Test.YtginnonjdbpamaaGreatDoorMc21
import Derived.Test.YtginnonjdbpamaaGreatDoorMc28
/- The law for a range over trace.Course. -/
import Derived.Test.YtginnonjdbpamaaGreatDoorMc1
set_option maxHeartbeats 6400000
set_option maxRecDepth 100000
namespace Go.Proofs.YtginnonjdbpamaaGreatDoor
open Go.RowKit Go.Sort
theorem YieldAt.mono_ {F : Fence} {m : Nat} {P : Program} {l : Nat} {args : Array Value} {W : World} {R R' : Ending → World → Prop} (h : YieldAt F m P l args W R) (hr : ∀ e w', R e w' → R' e w') : YieldAt F m P l args W R' := by
 obtain ⟨fn, tmps, asg, bd, hy, hR⟩ := h
 exact ⟨fn, tmps, asg, bd, hy, hR.mono hr⟩
def xHj (p : Nat → Prop) (W : World) (I X : World → Prop) : Exit → Act → World → Prop
 | .normal, _, W3 => Kept W W3 p ∧ I W3
 | .ret, _, W3 => Kept W W3 p ∧ X W3
 | _, _, _ => False
theorem notOut_rq {p : Nat → Prop} {W : World} {I X : World → Prop} : ¬ LetsOut (xHj p W I X) := fun ⟨_, _, hq⟩ => hq
instance notC_rq {p : Nat → Prop} {W : World} {I X : World → Prop} : NotC (xHj p W I X) := ⟨notOut_rq⟩
theorem panOk_rq {p : Nat → Prop} {W : World} {I X : World → Prop} : xCm (xHj p W I X) := fun _ _ _ _ _ h => h
instance panC_rq {p : Nat → Prop} {W : World} {I X : World → Prop} : PanC (xHj p W I X) := ⟨panOk_rq⟩
theorem assign2 {l n : Nat} {P : Program} {K : Act → World → Prop} {a : Act} {W : World} {r1 r2 : Nat} {o1 o2 : Oper} {p0 p1 d0 d1 : Tmp} {v0 v1 : Value} (h1 : o1.op = .assign (.tmp p0)) (h2 : o2.op = .assign (.tmp p1)) (e1 : o1.dst = some d0) (e2 : o2.dst = some d1) (g1 : o1.guard = none) (g2 : o2.guard = none)
  (a0 : a.eval (.tmp p0) = v0) (a1 : (a.put (some d0) v0).eval (.tmp p1) = v1) (hK : K ((a.put (some d0) v0).put (some d1) v1) W) :
  ((Code.region r1 #[o1] false).seq (Code.region r2 #[o2] false)).wpIn (Fence.wide.inRound l) n P (Exit.then K (fun _ _ _ => False)) a W := by
 have hno : ¬ LetsOut (fun (_ : Exit) (_ : Act) (_ : World) => False) := fun ⟨_, _, h⟩ => h
 refine wpIn_seq_k fun K2 hK2 => ?_
 refine xAj (l := [o1]) (by simp [noD, h1]) (xCk (xCk hno)) ?_
 refine wpList_plain g1 fun K' hK' => ?_
 unfold Oper.wp execOp
 simp only [h1]
 refine hK' _ _ ?_
 rw [e1, a0]
 refine hK2 _ _ ?_
 refine xAj (l := [o2]) (by simp [noD, h2]) (xCk hno) ?_
 refine wpList_plain g2 fun K' hK' => ?_
 unfold Oper.wp execOp
 simp only [h2]
 refine hK' _ _ ?_
 rw [e2, a1]
 exact hK
theorem seg_upd {α : Type} {w w' : World} {size g gh : Nat} {enc : α → List Value} {xs : List α} (h : Seg w w.heap.size size enc (some ⟨gh, 0, none⟩) xs) (u : Upd w w' g) (hg : gh ≠ g) : Seg w' w'.heap.size size enc (some ⟨gh, 0, none⟩) xs := fun k x hx => by
 obtain ⟨b, off, e, hb, hc⟩ := h k x hx
 cases e
 exact ⟨gh, 0, rfl, by rw [u.s]; exact hb, fun j v hv => (World.cell?_of_block (w := w) (w' := w') (a := ⟨gh, 0 + k * size + j, none⟩) (u.f gh hg)).trans (hc j v hv)⟩
theorem xId {ps : Array Tmp} {assign body : Code} {Q : Exit → Act → World → Prop} {a : Act} {Z w : World} {g : Operand} {c : Con} {m : Cm} {l : List Int} {A : Option Addr} {cap ca cl : Nat} (p0 p1 d0 d1 : Tmp) (r1 r2 : Nat) (o1 o2 : Oper)
  (hg : a.eval g = .func (.func 60) #[] #[.pointer (some ⟨ca, 0, none⟩), .pointer (some ⟨cl, 0, none⟩)]) (hps : ps = #[p0, p1]) (has : assign = (Code.region r1 #[o1] false).seq (Code.region r2 #[o2] false))
  (ho1 : o1.op = .assign (.tmp p0)) (ho2 : o2.op = .assign (.tmp p1)) (e1 : o1.dst = some d0) (e2 : o2.dst = some d1) (g1 : o1.guard = none) (g2 : o2.guard = none) (s0 : p0 < a.tmps.size) (s1 : p1 < a.tmps.size) (hne : p0 ≠ p1) (hd : d0 ≠ p1)
  (hk : c.chk l = 0) (hC : Cont w c m) (hA : Seg w w.heap.size 1 eI A l) (_hcap : Nat) (p : Nat → Prop) (hp : ∀ x, p x → x < Z.heap.size) (J : Nat → World → Prop) (X : World → Prop) (hJ : ∀ i W W', J i W → Below Z.heap.size W W' → J i W') (hX : ∀ W W', X W → Below Z.heap.size W W' → X W')
  (hb : ∀ i W, J i W → Blk W ca 27 (coA c m) ∧ Blk W cl 22 #[.slice A l.length cap]) (he : ∀ i W, J i W → Below w.heap.size w W) (hw : w.heap.size ≤ Z.heap.size) (h0 : J 0 Z)
  (hbody : ∀ (lp i : Nat) (W : World) (r : Rd) (gh ch go co : Nat), i ≤ l.length → J i W → Z.heap.size + 1 < W.heap.size → r = (l.take i).foldl (fun r x => r.step c x) c.read0 → r.hol.length = c.hold.length ∧ r.oc.length = c.cl.length → Seg W W.heap.size 1 eI (some ⟨gh, 0, none⟩) r.hol → Seg W W.heap.size 5 eO (some ⟨go, 0, none⟩) (r.oc.map (·.1)) →
   body.wpIn (Fence.wide.inRound lp) (6 - 1 - 1) Tryz.prog (xHj p W (J (i + 1)) X) (({ tmps := (a.tmps.setIfInBounds p0 (.slice (some ⟨gh, 0, none⟩) r.hol.length ch)).setIfInBounds p1 (.slice (some ⟨go, 0, none⟩) r.oc.length co), defers := [] } : Act).put (some d0) (.slice (some ⟨gh, 0, none⟩) r.hol.length ch) |>.put (some d1) (.slice (some ⟨go, 0, none⟩) r.oc.length co)) W)
  (hdone : ∀ (D : Nat) (W : World), Z.heap.size ≤ D → J (l.length + 1) W → W.heap[D]? = some (.deferred (some [])) → Q .normal { a with defers := { target := .collected D, args := #[] } :: a.defers } W)
  (hret : ∀ (D : Nat) (W : World), Z.heap.size ≤ D → X W → W.heap[D]? = some (.deferred (some [])) → Q .ret { a with defers := { target := .collected D, args := #[] } :: a.defers } W) :
  (Code.rangeFunc g ps assign body).wp Tryz.prog Q a Z := by
 subst hps has
 refine (wpIn_wide (n := 6)).1 ?_
 refine xCh rfl (by omega) hg trivial (enters_of Tryz.func60 (by kernel_rfl) rfl) ?_
 rintro lp Rec RecX rfl hRec hRecX hlt hround W1 hR1 hb1 hs1
 have hcj : CJ w c m l A cap ca cl (Z.heap.size + 2) (fun i W => Rec W ∧ J i W) :=
  ⟨fun i W h => by have := hlt W h.1; omega, fun i W W' h hb' => ⟨hRec W W' h.1 hb', hJ i W W' h.2 (hb'.mono (by omega))⟩, fun i W h => hb i W h.2, fun i W h => he i W h.2, by omega, hC, hA⟩
 refine (course1_in (6 - 1) (Z.heap.size + 1) (Z.heap.size + 2) (by omega) w c m l A cap ca cl hk (fun x => p x ∨ x = Z.heap.size + 1) (fun x hx => by rcases hx with hx | hx; have := hp x hx; omega; omega) (fun i W => Rec W ∧ J i W) (fun W => ∃ cd, RecX cd W ∧ cd = .ret ∧ X W) hcj ?_ W1 ⟨hR1, hJ 0 Z W1 h0 hb1⟩).mono ?_
 ·intro i W r gh ch go co hi hJi hr hgo hln sh so
  have hl := hlt W hJi.1
  refine YieldAt.mono_ (hround #[.slice (some ⟨gh, 0, none⟩) r.hol.length ch, .slice (some ⟨go, 0, none⟩) r.oc.length co] W (({ tmps := (a.tmps.setIfInBounds p0 (.slice (some ⟨gh, 0, none⟩) r.hol.length ch)).setIfInBounds p1 (.slice (some ⟨go, 0, none⟩) r.oc.length co), defers := [] } : Act).put (some d0) (.slice (some ⟨gh, 0, none⟩) r.hol.length ch) |>.put (some d1) (.slice (some ⟨go, 0, none⟩) r.oc.length co))
   (fun W' => J (i + 1) W' ∧ Kept W W' (fun x => p x ∨ x = Z.heap.size + 1)) (fun cd W' => cd = .ret ∧ X W') hJi.1 (by simp) (fun K hK => ?_) (fun W2 u => ?_)) ?_
  ·simp only [List.zip_toArray, List.zip_cons_cons, List.zip_nil_right, List.size_toArray, List.length_cons, List.length_nil, List.foldl_toArray', List.foldl_cons, List.foldl_nil]
   refine assign2 ho1 ho2 e1 e2 g1 g2 ?_ ?_ hK
   ·simp [Act.eval, s0, hne.symm]
   ·simp [Act.eval, Act.put, s1, hd]
  ·have hb2 : Below Z.heap.size W W2 := u.b _ (by omega)
   have lW : Z.heap.size ≤ W.heap.size := by omega
   have k2 : Kept W W2 (fun x => p x ∨ x = Z.heap.size + 1) := Kept.of_upd u (.inr rfl)
   refine wpIn_mono (hbody (Z.heap.size + 1) i W2 r gh ch go co hi (hJ _ _ _ hJi.2 hb2) (by rw [u.s]; exact hl) hr hln ?_ ?_) ?_
   ·exact seg_upd sh u (by omega)
   ·exact seg_upd so u (by omega)
   ·rintro e a3 W3 hq
    cases e with
    | normal =>
     obtain ⟨hk3, hi3⟩ := hq
     refine ⟨hk3.k _ (by rw [u.s]; exact hl) (fun hx => by have := hp _ hx; omega), hk3.k _ (by rw [u.s]; omega) (fun hx => by have := hp _ hx; omega), fun W4 u4 => ⟨hJ _ _ _ hi3 (u4.b _ (by omega)), (k2.trans (hk3.weak fun x hx => .inl hx)).trans (Kept.of_upd u4 (.inr rfl))⟩⟩
    | ret =>
     obtain ⟨hk3, hi3⟩ := hq
     exact ⟨hk3.k _ (by rw [u.s]; exact hl) (fun hx => by have := hp _ hx; omega), hk3.k _ (by rw [u.s]; omega) (fun hx => by have := hp _ hx; omega), fun W4 u4 => ⟨rfl, hX _ _ hi3 (u4.b _ (by omega))⟩⟩
    | exit id => exact hq.elim
    | goto t => exact hq.elim
    | panic ch => exact hq.elim
    | outgrown => exact hq.elim
  ·rintro e W' (⟨rfl, h1, h2⟩ | ⟨rfl, cd, h1, h2⟩)
   ·exact ⟨true, rfl, fun _ => ⟨⟨h1, h2.1⟩, h2.2⟩, fun h => by cases h⟩
   ·exact ⟨false, rfl, fun h => (by cases h), fun _ => ⟨cd, h1, h2.1, h2.2⟩⟩
 ·rintro e W' ⟨hv, h | ⟨cd, h1, rfl, h2⟩⟩
  ·exact ⟨hv, .inl ⟨h.1, fun W4 u hK => hdone _ W4 (Nat.le_refl _) (hJ _ _ _ h.2 (u.b _ (by omega))) hK⟩⟩
  ·refine ⟨hv, .inr ⟨.ret, h1, fun W4 u hK => wpIn_ret (hret _ W4 (Nat.le_refl _) (hX _ _ h2 (u.b _ (by omega))) hK)⟩⟩
end Go.Proofs.YtginnonjdbpamaaGreatDoor
/- The walk of validate.Agrees, whole. -/
namespace Go.Proofs.YtginnonjdbpamaaGreatDoor
open Go.RowKit Go.Sort
attribute [local go_sem] Oper.semAt_some
theorem AJ.next {w W : World} {c : Con} {m : Cm} {l : List Int} {A : Option Addr} {cap : Nat} {Av : Option Addr} {capv : Nat} {rows : List (Sta × Qm)} {ba bl bv r0 r1 s10 d11 ca cl j : Nat} (h : AJ w W c m l A cap Av capv rows ba bl bv r0 r1 s10 d11 ca cl j)
  (hf : bl ≠ s10 ∧ bv ≠ s10 ∧ r0 ≠ s10 ∧ r1 ≠ s10 ∧ ca ≠ s10 ∧ cl ≠ s10 ∧ bl ≠ d11 ∧ bv ≠ d11 ∧ r0 ≠ d11 ∧ r1 ≠ d11 ∧ ca ≠ d11 ∧ cl ≠ d11 ∧ w.heap.size ≤ s10 ∧ w.heap.size ≤ d11) (hne : d11 ≠ s10)
  (hg : agL (j + 1) ((rows.map (·.1)).drop (j + 1)) ((xCt c c.read0 l).drop (j + 1)) = agL 0 (rows.map (·.1)) (xCt c c.read0 l)) (hd : (rdAt c l (j + 1)).day = (rdAt c l j).day) :
  AJ w (W.setCell ⟨s10, 0, none⟩ (.int .i64 ((j : Int) + 1))) c m l A cap Av capv rows ba bl bv r0 r1 s10 d11 ca cl (j + 1) := by
 obtain ⟨n1, n2, n3, n4, n5, n6, n7, n8, n9, n10, n11, n12, n13, n14⟩ := hf
 refine ⟨h.e.setCell (p := ⟨s10, 0, none⟩) n13 _, h.gl.far (p := ⟨s10, 0, none⟩) n1 _, h.gv.far (p := ⟨s10, 0, none⟩) n2 _, h.g0.far (p := ⟨s10, 0, none⟩) n3 _, h.g1.far (p := ⟨s10, 0, none⟩) n4 _, ?_, ?_, h.ca_.far (p := ⟨s10, 0, none⟩) n5 _, h.cl_.far (p := ⟨s10, 0, none⟩) n6 _, hg⟩
 ·have h2 := h.gs.set_ 0 (.int .i64 ((j : Int) + 1))
  simpa using h2
 ·rw [hd]
  exact h.gd.far (p := ⟨s10, 0, none⟩) hne _
theorem AJ.next2 {w W : World} {c : Con} {m : Cm} {l : List Int} {A : Option Addr} {cap : Nat} {Av : Option Addr} {capv : Nat} {rows : List (Sta × Qm)} {ba bl bv r0 r1 s10 d11 ca cl j : Nat} (h : AJ w W c m l A cap Av capv rows ba bl bv r0 r1 s10 d11 ca cl j)
  (hf : bl ≠ s10 ∧ bv ≠ s10 ∧ r0 ≠ s10 ∧ r1 ≠ s10 ∧ ca ≠ s10 ∧ cl ≠ s10 ∧ bl ≠ d11 ∧ bv ≠ d11 ∧ r0 ≠ d11 ∧ r1 ≠ d11 ∧ ca ≠ d11 ∧ cl ≠ d11 ∧ w.heap.size ≤ s10 ∧ w.heap.size ≤ d11) (hne : d11 ≠ s10) (hne2 : s10 ≠ d11)
  (hg : agL (j + 1) ((rows.map (·.1)).drop (j + 1)) ((xCt c c.read0 l).drop (j + 1)) = agL 0 (rows.map (·.1)) (xCt c c.read0 l)) (hd : (rdAt c l (j + 1)).day = (rdAt c l j).day + 1) :
  AJ w ((W.setCell ⟨d11, 0, none⟩ (.int .i64 ((rdAt c l j).day + 1))).setCell ⟨s10, 0, none⟩ (.int .i64 ((j : Int) + 1))) c m l A cap Av capv rows ba bl bv r0 r1 s10 d11 ca cl (j + 1) := by
 obtain ⟨n1, n2, n3, n4, n5, n6, n7, n8, n9, n10, n11, n12, n13, n14⟩ := hf
 refine ⟨(h.e.setCell (p := ⟨d11, 0, none⟩) n14 _).setCell (p := ⟨s10, 0, none⟩) n13 _, (h.gl.far (p := ⟨d11, 0, none⟩) n7 _).far (p := ⟨s10, 0, none⟩) n1 _, (h.gv.far (p := ⟨d11, 0, none⟩) n8 _).far (p := ⟨s10, 0, none⟩) n2 _, (h.g0.far (p := ⟨d11, 0, none⟩) n9 _).far (p := ⟨s10, 0, none⟩) n3 _, (h.g1.far (p := ⟨d11, 0, none⟩) n10 _).far (p := ⟨s10, 0, none⟩) n4 _, ?_, ?_, (h.ca_.far (p := ⟨d11, 0, none⟩) n11 _).far (p := ⟨s10, 0, none⟩) n5 _, (h.cl_.far (p := ⟨d11, 0, none⟩) n12 _).far (p := ⟨s10, 0, none⟩) n6 _, hg⟩
 ·have h2 := (h.gs.far (p := ⟨d11, 0, none⟩) hne2 (.int .i64 ((rdAt c l j).day + 1))).set_ 0 (.int .i64 ((j : Int) + 1))
  simpa using h2
 ·have h2 := (h.gd.set_ 0 (.int .i64 ((rdAt c l j).day + 1))).far (p := ⟨s10, 0, none⟩) hne (.int .i64 ((j : Int) + 1))
  rw [hd]
  simpa using h2
structure AX (w W : World) (V : Int × Bool) (r0 r1 : Nat) : Prop where
 e : Below w.heap.size w W
 g0 : Blk W r0 3 #[.int .i64 V.1]
 g1 : Blk W r1 4 #[.bool V.2]
theorem AX.leave {w W : World} {V : Int × Bool} {r0 r1 : Nat} (h : AX w W V r0 r1) {a : Act} (h0 : a.tmps.getD 6 undef = .pointer (some ⟨r0, 0, none⟩)) (h1 : a.tmps.getD 7 undef = .pointer (some ⟨r1, 0, none⟩)) :
  LeavesInM Fence.wide 6 Tryz.prog Tryz.f14 a.tmps (fun e w' => e = .returned (.tuple #[.int .i64 V.1, .bool V.2]) ∧ Below w.heap.size w w') [] .returning W :=
 ⟨_, res_ib rfl h0 h1 (h.g0.cell 0) (h.g1.cell 0), rfl, h.e⟩
theorem agr_any (c : Con) (m : Cm) (l : List Int) (A : Option Addr) (cap : Nat) (Av : Option Addr) (capv : Nat) (rows : List (Sta × Qm)) (w : World) (hC : Cont w c m) (hA : Seg w w.heap.size 1 eI A l) (nl : l.length ≤ 1000000) (hS : Stl w Av rows) (_nr : rows.length ≤ 1000000) :
  Calls Tryz.prog 14 #[.agg (coA c m), .slice A l.length cap, .slice Av rows.length capv] w fun e w' => e = .returned (.tuple #[.int .i64 (c.agr l (rows.map (·.1))).1, .bool (c.agr l (rows.map (·.1))).2]) ∧ Below w.heap.size w w' := by
 obtain ⟨V, hV⟩ : ∃ V, c.agr l (rows.map (·.1)) = V := ⟨_, rfl⟩
 rw [hV]
 have HV : Hid (V = if rows.length ≠ l.length + 1 ∨ c.chk l ≠ 0 then (-1, false) else agL 0 (rows.map (·.1)) (xCt c c.read0 l)) := by
  unfold Hid; rw [← hV]; unfold Con.agr; rw [List.length_map]
 have HC := qzL hC
 have HA := qzL hA
 have HS := qzL hS
 have HOU := qzL (fun W (hb : Below w.heap.size w W) => xHo c m l A cap W (hC.then_ hb) ((hA.below hb).more hb.size) nl)
 clear hC hA hS hV
 refine (callsIn_wide (n := 6)).1 ?_
 refine callsIn_of_wp_marks Tryz.func14 rfl trivial ?_
 simp only [Tryz.ntmps14, List.size_toArray, List.length_cons, List.length_nil, Nat.reduceAdd, Nat.reduceSub, Array.replicate_succ, Array.replicate_zero, List.push_toArray, List.append_toArray, qzF, qzE]
 refine wpIn_wide.2 ?_
 refine wp_qs ?_
 go_upto_region 1 with (fail)
 refine xAf ?_
 intro X hX
 have ga : Blk X w.heap.size 27 (coA c m) := by rw [hX]; exact (((((Blk.new _ _ _).alloc _).alloc _).alloc _).alloc _)
 have gl : Blk X (w.heap.size + 1) 22 #[.slice A l.length cap] := by rw [hX]; exact ((((xA5 (by simp)).alloc _).alloc _).alloc _)
 have gv : Blk X (w.heap.size + 1 + 1) 30 #[.slice Av rows.length capv] := by rw [hX]; exact (((xA5 (by simp)).alloc _).alloc _)
 have g0 : Blk X (w.heap.size + 1 + 1 + 1) 3 #[.int .i64 0] := by rw [hX]; exact ((xA5 (by simp)).alloc _)
 have g1 : Blk X (w.heap.size + 1 + 1 + 1 + 1) 4 #[.bool false] := by rw [hX]; exact (xA5 (by simp))
 have HB : Hid (Below w.heap.size w X) := by rw [hX]; unfold Hid; (repeat (first | (with_reducible first | assumption | exact Below.refl _ _ | refine xAk ?_ _ | refine Below.drew ?_ | refine xAc ?_ _ | refine Below.setCell ?_ (by first | omega | (simp; done) | (simp; omega)) _ | refine xAa ?_ (by assumption)) | (refine xAa (a := World.drew _) ?_ (by with_reducible assumption))))
 obtain ⟨r1, er1⟩ : ∃ b, w.heap.size + 1 + 1 + 1 + 1 = b := ⟨_, rfl⟩
 obtain ⟨r0, er0⟩ : ∃ b, w.heap.size + 1 + 1 + 1 = b := ⟨_, rfl⟩
 obtain ⟨bv, ebv⟩ : ∃ b, w.heap.size + 1 + 1 = b := ⟨_, rfl⟩
 obtain ⟨bl, ebl⟩ : ∃ b, w.heap.size + 1 = b := ⟨_, rfl⟩
 obtain ⟨ba, eba⟩ : ∃ b, w.heap.size = b := ⟨_, rfl⟩
 have lts : Hid (w.heap.size ≤ ba ∧ ba < bl ∧ bl < bv ∧ bv < r0 ∧ r0 < r1) := by unfold Hid; omega
 rw [er1] at g1 ⊢
 rw [er0] at g0 ⊢
 rw [ebv] at gv ⊢
 rw [ebl] at gl ⊢
 rw [eba] at ga ⊢
 have GA := qzL ga
 have GL := qzL gl
 have GV := qzL gv
 have G0 := qzL g0
 have G1 := qzL g1
 clear hX er1 er0 ebv ebl eba ga gl gv g0 g1
 have n01 : r0 ≠ r1 := by have := lts.out; omega
 have n10 : r1 ≠ r0 := by have := lts.out; omega
 have kl : X.cell? ⟨bl, 0, none⟩ = some (.slice A l.length cap) := GL.out.cell 0
 have kv : X.cell? ⟨bv, 0, none⟩ = some (.slice Av rows.length capv) := GV.out.cell 0
 have f0 : X.frozen? ⟨r0, 0, none⟩ = false := G0.out.frozen 0
 have f1 : X.frozen? ⟨r1, 0, none⟩ = false := G1.out.frozen 0
 have c0 : X.cell? ⟨r0, 0, none⟩ = some (.int .i64 0) := G0.out.cell 0
 have c1 : X.cell? ⟨r1, 0, none⟩ = some (.bool false) := G1.out.cell 0
 by_cases e1 : rows.length = l.length + 1
 case neg =>
  have t1 : (((rows.length : Nat) : Int) == ((l.length : Nat) : Int) + 1) = false := beq_eq_false_iff_ne.2 (by omega)
  have t1' : (((rows.length : Nat) : Int) != ((l.length : Nat) : Int) + 1) = true := bne_iff_ne.2 (by omega)
  have hv : Hid (V = (-1, false)) := by unfold Hid; rw [HV.out, if_pos (.inl e1)]
  clear e1
  go_wp2
  refine xF5 ?_
  rw [hv.out]
  have lt := lts.out
  refine AX.leave (r0 := r0) (r1 := r1) ⟨(HB.out.setCell (p := ⟨r0, 0, none⟩) (by show _ ≤ r0; omega) _).setCell (p := ⟨r1, 0, none⟩) (by show _ ≤ r1; omega) _, ?_, ?_⟩ rfl rfl
  ·exact (G0.out.set_ 0 _).far (p := ⟨r1, 0, none⟩) (by show r0 ≠ r1; omega) _
  ·exact (G1.out.far (p := ⟨r0, 0, none⟩) (by show r1 ≠ r0; omega) _).set_ 0 _
 have t1 : (((rows.length : Nat) : Int) == ((l.length : Nat) : Int) + 1) = true := by simp [e1]
 have t1' : (((rows.length : Nat) : Int) != ((l.length : Nat) : Int) + 1) = false := by simp [e1]
 have HE1 := qzL e1
 clear e1
 have ga := GA.out
 obtain ⟨E, hE⟩ : ∃ E, c.chk l = E := ⟨_, rfl⟩
 have HO := qzL (HOU.out X HB.out)
 rw [hE] at HO HV
 have HE := qzL hE
 clear HOU hE
 go_upto_region 4 with (first | (refine xAi (by rfl) 27 _ rfl ba rfl 27 _ ga ⟨_, Tryz.underlying27⟩ (by kernel_rfl) ?_; simp only [Act.put, qzG, qzH, qzI]) | (go_at_call 16; (with_reducible refine HO.out.mono ?_); rintro e w1 ⟨⟨Ao, n, co, rfl, hz⟩, hb1⟩; have HZ := qzL hz; clear hz))
 have HB1 := qzL (xAa HB.out hb1)
 have GA1 := qzL (GA.out.then_ hb1)
 have GL1 := qzL (GL.out.then_ hb1)
 have GV1 := qzL (GV.out.then_ hb1)
 have G01 := qzL (G0.out.then_ hb1)
 have G11 := qzL (G1.out.then_ hb1)
 clear t1 t1' kl kv f0 f1 c0 c1 GA GL GV G0 G1 HB hb1 ga HO
 have f0 : w1.frozen? ⟨r0, 0, none⟩ = false := G01.out.frozen 0
 have f1 : w1.frozen? ⟨r1, 0, none⟩ = false := G11.out.frozen 0
 have c0 : w1.cell? ⟨r0, 0, none⟩ = some (.int .i64 0) := G01.out.cell 0
 have c1 : w1.cell? ⟨r1, 0, none⟩ = some (.bool false) := G11.out.cell 0
 by_cases e2 : E = 0
 case neg =>
  have t2 : (E != 0) = true := by simpa using e2
  have t2' : (E == 0) = false := by simpa using e2
  have hv : Hid (V = (-1, false)) := by unfold Hid; rw [HV.out, if_pos (.inr e2)]
  clear e2
  go_wp2
  refine xF5 ?_
  rw [hv.out]
  have lt := lts.out
  refine AX.leave (r0 := r0) (r1 := r1) ⟨(HB1.out.setCell (p := ⟨r0, 0, none⟩) (by show _ ≤ r0; omega) _).setCell (p := ⟨r1, 0, none⟩) (by show _ ≤ r1; omega) _, ?_, ?_⟩ rfl rfl
  ·exact (G01.out.set_ 0 _).far (p := ⟨r1, 0, none⟩) (by show r0 ≠ r1; omega) _
  ·exact (G11.out.far (p := ⟨r0, 0, none⟩) (by show r1 ≠ r0; omega) _).set_ 0 _
 have t2 : (E != 0) = false := by simpa using e2
 have t2' : (E == 0) = true := by simpa using e2
 have HCK : Hid (c.chk l = 0) := by unfold Hid; rw [HE.out, e2]
 have HV2 : Hid (V = agL 0 (rows.map (·.1)) (xCt c c.read0 l)) := by unfold Hid; rw [HV.out, if_neg (by rw [HE1.out, e2]; simp)]
 clear HV HE e2
 go_upto_region 7 with (fail)
 refine xAf ?_
 intro Y hY
 have gs : Blk Y w1.heap.size 3 #[.int .i64 0] := by rw [hY]; exact (Blk.new _ _ _).alloc _
 have gd : Blk Y (w1.heap.size + 1) 3 #[.int .i64 0] := by rw [hY]; exact xA5 (w := w1.alloc (.cells #[.int .i64 0] 3)) (by simp)
 have hbY : Below w1.heap.size w1 Y := by rw [hY]; (repeat (first | (with_reducible first | assumption | exact Below.refl _ _ | refine xAk ?_ _ | refine Below.drew ?_ | refine xAc ?_ _ | refine Below.setCell ?_ (by first | omega | (simp; done) | (simp; omega)) _ | refine xAa ?_ (by assumption)) | (refine xAa (a := World.drew _) ?_ (by with_reducible assumption))))
 obtain ⟨d11, ed⟩ : ∃ b, w1.heap.size + 1 = b := ⟨_, rfl⟩
 obtain ⟨s10, es⟩ : ∃ b, w1.heap.size = b := ⟨_, rfl⟩
 have lt2 : Hid (r1 < s10 ∧ s10 < d11) := by have := G11.out.lt; unfold Hid; omega
 rw [ed] at gd ⊢
 rw [es] at gs ⊢
 have HBY := qzL (xAa HB1.out hbY)
 have GAY := qzL (GA1.out.then_ hbY)
 have GLY := qzL (GL1.out.then_ hbY)
 have GVY := qzL (GV1.out.then_ hbY)
 have G0Y := qzL (G01.out.then_ hbY)
 have G1Y := qzL (G11.out.then_ hbY)
 have GSY := qzL gs
 have GDY := qzL gd
 clear hY hbY ed es t2 t2' f0 f1 c0 c1 GA1 GL1 GV1 G01 G11 HB1 gs gd
 have ga := GAY.out
 have kl : Y.cell? ⟨bl, 0, none⟩ = some (.slice A l.length cap) := GLY.out.cell 0
 go_wp2_with (first | (refine xAi (by rfl) 27 _ rfl ba rfl 27 _ ga ⟨_, Tryz.underlying27⟩ (by kernel_rfl) ?_; simp only [Act.put, qzG, qzH, qzI]) | (go_at_call 30; (with_reducible refine (course_any c m A l.length cap Y).mono ?_); rintro e Z ⟨ca, cl, rfl, gca, gcl, hbZ, lca, lcl⟩))
 have hdayb : ∀ j, j ≤ l.length → 0 ≤ (rdAt c l j).day ∧ (rdAt c l j).day ≤ 1000000 := by
  obtain ⟨_, hl4, hrg⟩ := xE2 HCK.out
  have key : ∀ j, j ≤ l.length → 0 ≤ (rdAt c l j).day ∧ (rdAt c l j).day ≤ j := by
   intro j
   induction j with
   | zero => intro _; exact ⟨Int.le_refl _, Int.le_refl _⟩
   | succ j ih =>
    intro hj
    obtain ⟨y, hy⟩ : ∃ y, l[j]? = some y := ⟨_, qzJ (by omega)⟩
    have h1 := (xGq (c := c) (r := rdAt c l j) (hrg y (qzK hy))).2
    rw [xHn hy, h1]
    have h2 := ih (by omega)
    split <;> omega
  intro j hj
  have := key j hj
  omega
 have ltc : Hid (d11 < ca ∧ d11 < cl) := by have := GDY.out.lt; unfold Hid; omega
 have HBZ := qzL (xAa HBY.out hbZ)
 have lZ : Hid (ca < Z.heap.size ∧ cl < Z.heap.size) := ⟨gca.lt, gcl.lt⟩
 have hA0 : AJ w Z c m l A cap Av capv rows ba bl bv r0 r1 s10 d11 ca cl 0 :=
  ⟨HBZ.out, GLY.out.then_ hbZ, GVY.out.then_ hbZ, G0Y.out.then_ hbZ, G1Y.out.then_ hbZ, GSY.out.then_ hbZ, GDY.out.then_ hbZ, gca, gcl, rfl⟩
 clear gca gcl hbZ ga kl GAY GLY GVY G0Y G1Y GSY GDY HBY lca lcl
 refine xId (ca := ca) (cl := cl) (w := w) 31 32 12 13 8 9 _ _ rfl rfl rfl rfl rfl rfl rfl rfl rfl (by simp) (by simp) (by decide) (by decide) HCK.out HC.out HA.out 0 (fun x => x = r0 ∨ x = r1 ∨ x = s10 ∨ x = d11)
  (by have h1 := lts.out; have h2 := lt2.out; have h3 := ltc.out; have h4 := lZ.out; rintro x (rfl | rfl | rfl | rfl) <;> omega)
  (fun j W => AJ w W c m l A cap Av capv rows ba bl bv r0 r1 s10 d11 ca cl j) (fun W => AX w W V r0 r1) ?_ ?_ (fun j W h => ⟨h.ca_, h.cl_⟩) (fun j W h => h.e) HBZ.out.size hA0 ?_ ?_ ?_
 ·intro j W W' h hb
  have h1 := lts.out; have h2 := lt2.out; have h3 := ltc.out; have h4 := lZ.out
  exact h.below hb (by omega) HBZ.out.size
 ·intro W W' h hb
  have h1 := lts.out; have h2 := lt2.out; have h3 := ltc.out; have h4 := lZ.out
  exact ⟨h.e.trans (hb.mono HBZ.out.size), h.g0.below hb (by omega), h.g1.below hb (by omega)⟩
 ·intro lp j W r gh ch go co hj hJ hlW hr hln sh so
  simp only [Act.put, qzG, qzH, qzI]
  have hr2 : r = rdAt c l j := hr
  have k5 : W.cell? ⟨bv, 0, none⟩ = some (.slice Av rows.length capv) := hJ.gv.cell 0
  have ks : W.cell? ⟨s10, 0, none⟩ = some (.int .i64 (j : Nat)) := hJ.gs.cell 0
  have kd : W.cell? ⟨d11, 0, none⟩ = some (.int .i64 r.day) := by rw [hr2]; exact hJ.gd.cell 0
  have hjr : j < rows.length := by have := HE1.out; omega
  obtain ⟨x, hx⟩ : ∃ x, rows[j]? = some x := ⟨_, qzJ hjr⟩
  have hSW := HS.out.then_ hJ.e
  obtain ⟨b0, o0, eA0, hb0, hc0⟩ := xAx hSW.s hx
  have q0 : W.cell? ⟨b0, o0 + j * 4, none⟩ = some (.int .i64 x.1.day) := by simpa using hc0 0 _ rfl
  have q1 : W.cell? ⟨b0, o0 + j * 4 + 1, none⟩ = some (.slice x.2.h x.1.hol.length x.2.hc) := hc0 1 _ rfl
  have q2 : W.cell? ⟨b0, o0 + j * 4 + 2, none⟩ = some (.slice x.2.u x.1.used.length x.2.uc) := hc0 2 _ rfl
  have q3 : W.cell? ⟨b0, o0 + j * 4 + 3, none⟩ = some (.slice x.2.m x.1.marks.length x.2.mc) := hc0 3 _ rfl
  have hix := fun W => xAq (t := 30) (size := 4) (cap := capv) eA0 hjr (by kernel_rfl) (fun W => by kernel_rfl) W
  obtain ⟨B, hB⟩ : ∃ B, agrR x.1 r = B := ⟨_, rfl⟩
  have HAG : Hid (∀ W', Below W.heap.size W W' → Calls Tryz.prog 31 #[.agg #[.int .i64 x.1.day, .slice x.2.h x.1.hol.length x.2.hc, .slice x.2.u x.1.used.length x.2.uc, .slice x.2.m x.1.marks.length x.2.mc], .int .i64 r.day, .slice (some ⟨gh, 0, none⟩) r.hol.length ch, .slice (some ⟨go, 0, none⟩) r.oc.length co] W' fun e w' => e = .returned (.bool B) ∧ Below W'.heap.size W' w') := fun W' hb => by
   have h1 := agrees_any x.1 x.2 r.day r.hol (r.oc.map (·.1)) (some ⟨gh, 0, none⟩) ch (some ⟨go, 0, none⟩) co W' ((hSW.r x (qzK hx)).then_ hb) ((sh.below hb).more hb.size) ((so.below hb).more hb.size) (by rw [hln.1]; exact HC.out.nh) (by rw [List.length_map, hln.2]; exact HC.out.nk)
   rw [List.length_map] at h1
   rw [← hB]
   exact h1
  have HX := qzL hx
  have HJ := qzL hJ
  have HR2 := qzL hr2
  have HBB := qzL hB
  have hst : Hid (V = if B = true then agL (j + 1) ((rows.map (·.1)).drop (j + 1)) ((xCt c c.read0 l).drop (j + 1)) else ((j : Int), false)) := by
   unfold Hid
   have h1 := agL_step (S := rows.map (·.1)) (R := xCt c c.read0 l) (j := j) (s := x.1) (r := r) (by rw [List.getElem?_map, hx]; rfl) (by rw [hr2]; exact reads_at c l _ j hj)
   rw [HV2.out, ← hJ.g, h1, hB]
  clear hc0 eA0 hx hJ hSW sh so hr hr2 hB hln
  gi_step
  gi_step
  gi_step
  gi_step
  cases B with
  | false =>
   have rg0 := cR k5
   have rg1 := cR ks
   have rg2 := cR kd
   have rg3 := cR q0
   have rg4 := cR q1
   have rg5 := cR q2
   have rg6 := cR q3
   refine xAv [5, 6] [0, 1, 2, 3, 4, 7, 8] [] (by kernel_rfl) nO (by kernel_rfl) (by kernel_rfl) pO ?_
   simp only [xAm, qzA, qzB, qzC, qzD, qzE, qzF]
   repeat (go_big_quiet_step ((go_at_call 31; with_reducible exact xAp (fun W' hW' => HAG.out W' hW') _ _)))
   refine wpQuiet_nil ?_
   intro U hw2
   have hbU := xAh hw2
   clear hw2 rg0 rg1 rg2 rg3 rg4 rg5 rg6
   refine xAt ?_
   have HJU := qzL (HJ.out.below hbU (by have := HJ.out.gl.lt; have := HJ.out.gv.lt; have := HJ.out.g0.lt; have := HJ.out.g1.lt; have := HJ.out.gs.lt; have := HJ.out.gd.lt; have := HJ.out.ca_.lt; have := HJ.out.cl_.lt; omega) HJ.out.e.size)
   clear k5 ks kd q0 q1 q2 q3
   have f0 : U.frozen? ⟨r0, 0, none⟩ = false := HJU.out.g0.frozen 0
   have f1 : U.frozen? ⟨r1, 0, none⟩ = false := HJU.out.g1.frozen 0
   have c0 : U.cell? ⟨r0, 0, none⟩ = some (.int .i64 0) := HJU.out.g0.cell 0
   have c1 : U.cell? ⟨r1, 0, none⟩ = some (.bool false) := HJU.out.g1.cell 0
   have ks : U.cell? ⟨s10, 0, none⟩ = some (.int .i64 (j : Nat)) := HJU.out.gs.cell 0
   gi_wp2
   have lt := lts.out
   have lt2 := lt2.out
   have hw : w.heap.size ≤ r0 ∧ w.heap.size ≤ r1 := by omega
   refine ⟨((Kept.of_below hbU).setCell (.inl rfl)).setCell (.inr (.inl rfl)), ⟨(HJU.out.e.setCell (p := ⟨r0, 0, none⟩) hw.1 _).setCell (p := ⟨r1, 0, none⟩) hw.2 _, ?_, ?_⟩⟩
   ·rw [hst.out]
    exact (HJU.out.g0.set_ 0 _).far (p := ⟨r1, 0, none⟩) n01 _
   ·rw [hst.out]
    exact (HJU.out.g1.far (p := ⟨r0, 0, none⟩) n10 _).set_ 0 _
  | true =>
   have rg0 := cR k5
   have rg1 := cR ks
   have rg2 := cR kd
   have rg3 := cR q0
   have rg4 := cR q1
   have rg5 := cR q2
   have rg6 := cR q3
   refine xAv [5, 6] [0, 1, 2, 3, 4, 7, 8] [] (by kernel_rfl) nO (by kernel_rfl) (by kernel_rfl) pO ?_
   simp only [xAm, qzA, qzB, qzC, qzD, qzE, qzF]
   repeat (go_big_quiet_step ((go_at_call 31; with_reducible exact xAp (fun W' hW' => HAG.out W' hW') _ _)))
   refine wpQuiet_nil ?_
   intro U hw2
   have hbU := xAh hw2
   clear hw2 rg0 rg1 rg2 rg3 rg4 rg5 rg6
   refine xAt ?_
   have HJU := qzL (HJ.out.below hbU (by have := HJ.out.gl.lt; have := HJ.out.gv.lt; have := HJ.out.g0.lt; have := HJ.out.g1.lt; have := HJ.out.gs.lt; have := HJ.out.gd.lt; have := HJ.out.ca_.lt; have := HJ.out.cl_.lt; omega) HJ.out.e.size)
   clear k5 ks kd q0 q1 q2 q3
   have hgn : Hid (agL (j + 1) ((rows.map (·.1)).drop (j + 1)) ((xCt c c.read0 l).drop (j + 1)) = agL 0 (rows.map (·.1)) (xCt c c.read0 l)) := by
    unfold Hid
    rw [← HV2.out]
    have h1 := hst.out
    rw [if_pos rfl] at h1
    exact h1.symm
   have nsd : s10 ≠ d11 := by have := lt2.out; omega
   have nds : d11 ≠ s10 := by have := lt2.out; omega
   have hfar : Hid (bl ≠ s10 ∧ bv ≠ s10 ∧ r0 ≠ s10 ∧ r1 ≠ s10 ∧ ca ≠ s10 ∧ cl ≠ s10 ∧ bl ≠ d11 ∧ bv ≠ d11 ∧ r0 ≠ d11 ∧ r1 ≠ d11 ∧ ca ≠ d11 ∧ cl ≠ d11 ∧ w.heap.size ≤ s10 ∧ w.heap.size ≤ d11) := by
    have h1 := lts.out; have h2 := lt2.out; have h3 := ltc.out
    unfold Hid; omega
   have fs : U.frozen? ⟨s10, 0, none⟩ = false := HJU.out.gs.frozen 0
   have fd : U.frozen? ⟨d11, 0, none⟩ = false := HJU.out.gd.frozen 0
   have ks : U.cell? ⟨s10, 0, none⟩ = some (.int .i64 (j : Nat)) := HJU.out.gs.cell 0
   have kd : U.cell? ⟨d11, 0, none⟩ = some (.int .i64 (rdAt c l j).day) := HJU.out.gd.cell 0
   have kl : U.cell? ⟨bl, 0, none⟩ = some (.slice A l.length cap) := HJU.out.gl.cell 0
   have hday : (rdAt c l j).day = r.day := by rw [HR2.out]
   clear HAG hix hst
   by_cases hjl : j < l.length
   case neg =>
    have tj : decide ((j : Int) < (l.length : Int)) = false := qzN (by omega)
    have hend : Hid (rdAt c l (j + 1) = rdAt c l j) := rdAt_end (by omega)
    gi_wp2
    exact ⟨(Kept.of_below hbU).setCell (.inr (.inr (.inl rfl))), HJU.out.next hfar.out nds hgn.out (by rw [hend.out])⟩
   have tj : decide ((j : Int) < (l.length : Int)) = true := qzO (by omega)
   obtain ⟨y, hy⟩ : ∃ y, l[j]? = some y := ⟨_, qzJ hjl⟩
   obtain ⟨b1, o1, eA1, hb1, hc1⟩ := xAx ((HA.out.below HJU.out.e).more HJU.out.e.size) hy
   have hiy := fun W => xAq (t := 22) (size := 1) (cap := cap) eA1 hjl (by kernel_rfl) (fun W => by kernel_rfl) W
   have dy : U.cell? ⟨b1, o1 + j, none⟩ = some (.int .i64 y) := by simpa using hc1 0 _ rfl
   simp only [Nat.mul_one] at hiy
   have hstp := xGq (c := c) (r := rdAt c l j) ((xE2 HCK.out).2.2 y (qzK hy))
   rw [← xHn hy] at hstp
   have HST := qzL hstp.2
   have hdb : Hid (0 ≤ (rdAt c l j).day ∧ (rdAt c l j).day ≤ 1000000) := hdayb j hj
   have hdb2 := hdb.out
   clear hc1 eA1 hy hstp
   cases ty : (y == -1) with
   | true =>
    have hnd : Hid ((rdAt c l (j + 1)).day = (rdAt c l j).day + 1) := by unfold Hid; rw [HST.out, if_pos (by simpa using ty)]
    obtain ⟨dd, hdd⟩ : ∃ d, (rdAt c l j).day = d := ⟨_, rfl⟩
    have HDD := qzL hdd
    rw [hdd] at kd hdb2
    clear hdd hday
    gi_wp2
    have := HJU.out.next2 hfar.out nds nsd hgn.out hnd.out
    rw [HDD.out] at this
    exact ⟨((Kept.of_below hbU).setCell (.inr (.inr (.inr rfl)))).setCell (.inr (.inr (.inl rfl))), this⟩
   | false =>
    have hnd : Hid ((rdAt c l (j + 1)).day = (rdAt c l j).day) := by unfold Hid; rw [HST.out, if_neg (by simpa using ty)]
    clear hday
    gi_wp2
    exact ⟨(Kept.of_below hbU).setCell (.inr (.inr (.inl rfl))), HJU.out.next hfar.out nds hgn.out hnd.out⟩
 ·intro D W hD hJ hK
  have hv : Hid (V = (-1, true)) := by
   unfold Hid
   rw [HV2.out, ← hJ.g, agL_over (by rw [List.length_map]; have := HE1.out; omega)]
  have f0 : W.frozen? ⟨r0, 0, none⟩ = false := hJ.g0.frozen 0
  have f1 : W.frozen? ⟨r1, 0, none⟩ = false := hJ.g1.frozen 0
  have c0 : W.cell? ⟨r0, 0, none⟩ = some (.int .i64 0) := hJ.g0.cell 0
  have c1 : W.cell? ⟨r1, 0, none⟩ = some (.bool false) := hJ.g1.cell 0
  have HJ := qzL hJ
  have HK := qzL hK
  clear hJ hK
  go_wp2
  have hw : w.heap.size ≤ r0 ∧ w.heap.size ≤ r1 := by have := lts.out; omega
  have hnD : r0 ≠ D ∧ r1 ≠ D ∧ w.heap.size ≤ D := by have := lts.out; have := lt2.out; have := ltc.out; have := lZ.out; omega
  have uD : Upd ((W.setCell ⟨r0, 0, none⟩ (.int .i64 (-1))).setCell ⟨r1, 0, none⟩ (.bool true)) (((W.setCell ⟨r0, 0, none⟩ (.int .i64 (-1))).setCell ⟨r1, 0, none⟩ (.bool true)).putObj D (.deferred none)) D := Upd.putObj _ (by rw [World.size_setCell, World.size_setCell]; exact (Array.getElem?_eq_some_iff.1 HK.out).1)
  refine xF5 (xGb ?_ ?_)
  ·have h1 := (((Upd.refl W r0).setCell 0 (.int .i64 (-1))).f D hnD.1.symm).trans HK.out
   exact (((Upd.refl _ r1).setCell 0 (.bool true)).f D hnD.2.1.symm).trans h1
  ·rw [hv.out]
   refine AX.leave (r0 := r0) (r1 := r1) ⟨((HJ.out.e.setCell (p := ⟨r0, 0, none⟩) hw.1 _).setCell (p := ⟨r1, 0, none⟩) hw.2 _).trans (uD.b _ hnD.2.2), ?_, ?_⟩ rfl rfl
   ·exact ((HJ.out.g0.set_ 0 _).far (p := ⟨r1, 0, none⟩) n01 _).upd uD hnD.1
   ·exact ((HJ.out.g1.far (p := ⟨r0, 0, none⟩) n10 _).set_ 0 _).upd uD hnD.2.1
 ·intro D W hD hX hK
  have HX := qzL hX
  have HK := qzL hK
  clear hX hK
  go_wp2
  have hnD : r0 ≠ D ∧ r1 ≠ D ∧ w.heap.size ≤ D := by have := lts.out; have := lt2.out; have := ltc.out; have := lZ.out; omega
  have uD : Upd W (W.putObj D (.deferred none)) D := Upd.putObj _ (Array.getElem?_eq_some_iff.1 HK.out).1
  refine xF5 (xGb HK.out ?_)
  exact AX.leave (r0 := r0) (r1 := r1) ⟨HX.out.e.trans (uD.b _ hnD.2.2), HX.out.g0.upd uD hnD.1, HX.out.g1.upd uD hnD.2.1⟩ rfl rfl
end Go.Proofs.YtginnonjdbpamaaGreatDoor
/- The examples of head: what the functions compute at them. -/
namespace Go.Proofs.YtginnonjdbpamaaGreatDoor
open Go.RowKit
def sX0 : Sta := ⟨0, [0, 1], [false, false], [⟨1, 2, 0, 0, false⟩, ⟨0, 0, 0, -1, false⟩]⟩
def sX1 : Sta := ⟨1, [0, 1], [false, false], [⟨1, 1, 0, 0, false⟩, ⟨0, 0, 0, -1, false⟩]⟩
def sX2 : Sta := ⟨1, [0, 1], [false, false], [⟨3, 0, 1, 0, false⟩, ⟨1, 3, 0, 1, false⟩]⟩
theorem hx1 : Con.ex.runE [-1, 0] = 0 := by kernel_rfl
theorem hx2 : Con.ex.runS [-1, 0] = [sX0, sX1, sX2] := by kernel_rfl
theorem hx3 : Con.ex.runE [2] = 1 := by kernel_rfl
theorem hx4 : Con.ex.agr [-1, 0] [sX0, sX1, sX2] = (-1, true) := by kernel_rfl
theorem hx5 : Con.ex.agr [-1, 0] [sX0, { sX1 with day := 0 }, sX2] = (1, false) := by kernel_rfl
theorem hx6 : decV [48, 59, 59, 59] = some ⟨0, [], [], []⟩ := by kernel_rfl
theorem hx7 : decV [48, 48, 59, 59, 59] = none := by kernel_rfl
theorem hx8 : sX0.text = [48, 59, 48, 44, 49, 44, 59, 48, 48, 59, 49, 46, 50, 46, 48, 46, 48, 44, 48, 46, 48, 46, 48, 46, 45, 49, 44] := by kernel_rfl
end Go.Proofs.YtginnonjdbpamaaGreatDoor
