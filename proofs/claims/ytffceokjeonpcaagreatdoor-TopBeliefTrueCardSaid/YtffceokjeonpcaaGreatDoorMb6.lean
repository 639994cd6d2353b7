/- Contracts of functions and plain laws, joined: Ri, Sz, Sb, Sc, Sd, Se, Qa. -/
import Derived.Test.YtffceokjeonpcaaGreatDoorMb5
import Derived.OrdersIn
import Derived.Deep.Cut
import Derived.Test.YtffceokjeonpcaaGreatDoorMb2
import Derived.Test.YtffceokjeonpcaaGreatDoorMb1
set_option maxHeartbeats 6400000
set_option maxRecDepth 100000
namespace Go.Proofs.YtffceokjeonpcaaGreatDoor
open Go.RowKit Go.Sort
section
variable {l n : Nat} {P : Program} {ops : Array Oper} {Q : Exit → Act → World → Prop} {md : Region.Mode}
def noD (o : Oper) : Bool := match o.op with | .defer _ => false | _ => true
theorem noD_spec {o : Oper} (h : noD o = true) : ∀ c, o.op ≠ .defer c := fun c e => by unfold noD at h; rw [e] at h; cases h
theorem opIn_of {o : Oper} {a : Act} {w : World} {K : Act → World → Prop} (hd : ∀ c, o.op ≠ .defer c) (h : o.wp P a w K Q) : o.wpIn (Fence.wide.inRound l) n P a w K Q := by
 refine ⟨fun _ _ => trivial, ?_⟩
 rw [Oper.semAt_eq _ _ _ hd]
 unfold Oper.wp at h
 generalize (execOp a.eval o).run P w = r at h ⊢
 cases r with
 | ok x w' =>
  cases x <;> simp only [Oper.upon, Oper.uponIn] at h ⊢ <;>
   first
    | exact h
    | exact ⟨fun e => by simp [Fence.wide] at e, callsIn_wide.2 h⟩
    | exact ⟨fun e => by simp [Fence.wide] at e, fun c cs _ => let ⟨v, w', r, s⟩ := h c cs; ⟨v, w', r, stepsIn_wide.2 s⟩⟩
 | halt x w' => cases x <;> simp only [Oper.upon, Oper.uponIn] at h ⊢ <;> exact h
theorem xD0 (hL : ¬ LetsOut Q) : ∀ (os : List Oper) (a : Act) (w : World), os.all noD = true → wpList P ops Q os a w → wpListIn (Fence.wide.inRound l) n P ops Q os a w
 | [], _, _, _, h => h
 | o :: rest, a, w, hn, h => by
  rw [List.all_cons, Bool.and_eq_true] at hn
  unfold wpList at h
  unfold wpListIn
  split
  ·next hw =>
   rw [if_pos hw] at h
   rcases h with h | ⟨_, h⟩
   ·exact opIn_of (noD_spec hn.1) (Oper.wp_mono (fun a w h => xD0 hL rest a w hn.2 h) h)
   ·exact absurd h hL
  ·next hw =>
   rw [if_neg hw] at h
   exact ⟨fun _ _ => trivial, xD0 hL rest _ w hn.2 h⟩
theorem wpOpIn_of (hL : ¬ LetsOut Q) {i : Nat} {K : Act → World → Prop} {a : Act} {w : World} (hn : ops.toList.all noD = true) (h : wpOp P ops Q i K a w) : wpOpIn (Fence.wide.inRound l) n P ops Q i K a w := by
 unfold wpOp at h
 unfold wpOpIn
 cases ho : ops[i]? with
 | none => rw [ho] at h; exact h
 | some o =>
  rw [ho] at h
  have hno : noD o = true := List.all_eq_true.1 hn o (by rw [← Array.getElem?_toList] at ho; exact qzK ho)
  simp only at h ⊢
  split
  ·next hw =>
   rw [if_pos hw] at h
   rcases h with h | ⟨_, h⟩
   ·exact opIn_of (noD_spec hno) h
   ·exact absurd h hL
  ·next hw =>
   rw [if_neg hw] at h
   exact ⟨fun _ _ => trivial, h⟩
theorem xFt (hL : ¬ LetsOut Q) (hn : ops.toList.all noD = true) : ∀ (f : Nat) (_listed : Array Bool) (_a : Act) (_w : World), wpAny P md ops Q f _listed _a _w → wpAnyIn (Fence.wide.inRound l) n P md ops Q f _listed _a _w
 | 0, _, _, _, h => h
 | f + 1, _listed, _a, _w, h => ⟨h.1, fun i hi => wpOpIn_of hL hn (wpOp_mono (fun _a _w h => xFt hL hn f _ _a _w h) (h.2 i hi))⟩
end
section
variable {lp n : Nat} {P : Program} {id : Nat} {Q : Exit → Act → World → Prop} {a : Act} {w : World} {l : List Oper}
theorem xAe (hn : l.all noD = true) (hL : ¬ LetsOut Q) (h : wpList P l.toArray Q l a w) : (Code.region id l.toArray false).wpIn (Fence.wide.inRound lp) n P Q a w :=
 wpIn_region_lit (xD0 hL l a w hn h)
theorem xAx (ps hs ts : List Nat) (hn : l.all noD = true) (hL : ¬ LetsOut Q) (hm : P.follows .mixedOrders = true) (hB : mixB l.toArray ps hs ts = true) (hQ : xCs Q)
  (h : wpQuiet P l.toArray (fun w' => ∃ p : Regrown, w' = grow (redrawn w p.d) p.os) (fun a' => ∀ w', (∃ p : Regrown, w' = grow (redrawn w p.d) p.os) → wpList P l.toArray Q (xAn l.toArray ts) a' w') (xAn l.toArray ps ++ xAn l.toArray hs) a) :
  (Code.region id l.toArray true).wpIn (Fence.wide.inRound lp) n P Q a w := by
 simp only [mixB, Bool.and_eq_true, decide_eq_true_eq] at hB
 obtain ⟨⟨⟨⟨⟨hsel, hnn⟩, hd⟩, hps⟩, hlex⟩, hall⟩ := hB
 have hC : ∃ p : Regrown, { w with drawn := w.drawn + 1 } = grow (redrawn w p.d) p.os := ⟨⟨w.drawn + 1, #[]⟩, by rw [grow_empty]; rfl⟩
 refine wpIn_region_any hm (xFt hL (by simpa using hn) _ _ _ _ ?_)
 have := xGa (md := .any) (Q := Q) (f := hs.length + ts.length) (C := fun w' => ∃ p : Regrown, w' = grow (redrawn w p.d) p.os) hsel hQ hC (fun a' hcl h' =>
  xCu (Q' := Q) (g := ts.length) (fun listed a' w' hC hs hL => xBu (md := .any) (Q := Q) hsel hQ ts listed a' w' hs (hL w' hC)) _ _ _ _ hC
   (xI3 (md := .any) hsel hd hs _ a' (fun p hp => by simpa using List.all_eq_true.1 hall p hp) hcl hlex h')) ps (Array.replicate l.toArray.size false) a (fun j oj _ hl => by rw [getD_replicate_false] at hl; cases hl) hps h
 rwa [show hs.length + ts.length + ps.length = l.toArray.size by omega] at this
end
theorem xBy {K : Act → World → Prop} {Q : Exit → Act → World → Prop} (h : ¬ LetsOut Q) : ¬ LetsOut (Exit.then K Q) := fun ⟨a, w, hq⟩ => h ⟨a, w, hq⟩
class NotC (Q : Exit → Act → World → Prop) : Prop where
 o : ¬ LetsOut Q
theorem nO {Q : Exit → Act → World → Prop} [h : NotC Q] : ¬ LetsOut Q := h.o
instance notC_then {K : Act → World → Prop} {Q : Exit → Act → World → Prop} [h : NotC Q] : NotC (Exit.then K Q) := ⟨xBy h.o⟩
theorem xHp {id : Nat} {Q : Exit → Act → World → Prop} (h : ¬ LetsOut Q) : ¬ LetsOut (Exit.inBlock id Q) := fun ⟨a, w, hq⟩ => h ⟨a, w, hq⟩
instance notC_block {id : Nat} {Q : Exit → Act → World → Prop} [h : NotC Q] : NotC (Exit.inBlock id Q) := ⟨xHp h.o⟩
theorem notOut_rg {l D : Nat} {W2 : World} {I : World → Prop} {X : Code → World → Prop} : ¬ LetsOut (xFz l D W2 I X) := fun ⟨_, _, hq⟩ => hq
instance notC_rg {l D : Nat} {W2 : World} {I : World → Prop} {X : Code → World → Prop} : NotC (xFz l D W2 I X) := ⟨notOut_rg⟩
theorem panOk_rg {l D : Nat} {W2 : World} {I : World → Prop} {X : Code → World → Prop} : xCs (xFz l D W2 I X) := fun _ _ _ _ _ h => h
instance panC_rg {l D : Nat} {W2 : World} {I : World → Prop} {X : Code → World → Prop} : PanC (xFz l D W2 I X) := ⟨panOk_rg⟩
end Go.Proofs.YtffceokjeonpcaaGreatDoor
namespace Go.Proofs.YtffceokjeonpcaaGreatDoor
open Go.RowKit
attribute [local go_sem] Oper.semAt_some
theorem xCt (b : Nat) (w : World) : Calls Tryz.prog 69 #[.pointer (some ⟨b, 0, none⟩)] w fun e w' => e = .returned (.func (.func 99) #[] #[.pointer (some ⟨w.heap.size, 0, none⟩)]) ∧ w' = w.alloc (.cells #[.pointer (some ⟨b, 0, none⟩)] 98) := by
 go_enter Tryz.func69, Tryz.ntmps69
 go_wp2
 go_ret
 exact ⟨rfl, rfl⟩
structure RV (W : World) (bx b g N mc : Nat) (rs : Nat → Bool) (i : Nat) : Prop where
 x : W.cell? ⟨bx, 0, none⟩ = some (.pointer (some ⟨b, 0, none⟩))
 h : W.cell? ⟨b, 10, none⟩ = some (.slice (some ⟨g, 0, none⟩) N mc)
 m : i < N → ∃ x : Mk, x.runs = rs i ∧ W.cell? ⟨g, i * 5, none⟩ = some (.int .i64 x.st) ∧ W.cell? ⟨g, i * 5 + 1, none⟩ = some (.int .i64 x.left) ∧ W.cell? ⟨g, i * 5 + 2, none⟩ = some (.int .i64 x.got) ∧ W.cell? ⟨g, i * 5 + 3, none⟩ = some (.int .i64 x.brr) ∧ W.cell? ⟨g, i * 5 + 4, none⟩ = some (.bool x.pau)
theorem run1_in (n l bx b g N mc n₀ : Nat) (rs : Nat → Bool) (hn : 1 ≤ n) (hN : N ≤ 1000000) (J : Nat → World → Prop) (hs : ∀ i W, J i W → n₀ ≤ W.heap.size) (hJ : ∀ i W W', J i W → Below n₀ W W' → J i W') (hV : ∀ i W, J i W → RV W bx b g N mc rs i)
  (hskip : ∀ i W, J i W → i < N → rs i = false → J (i + 1) W)
  (hY : ∀ i W, J i W → i < N → rs i = true → YieldAt Fence.wide (n - 1) Tryz.prog l #[.int .i64 (i : Nat)] W fun e W' => e = .returned (.bool true) ∧ J (i + 1) W') (W : World) (h0 : J 0 W) :
  CallsIn Fence.wide n Tryz.prog 99 #[.func (.yield l) #[] #[], .pointer (some ⟨bx, 0, none⟩)] W fun e W' => (∃ v, e = .returned v) ∧ J N W' := by
 have HY := qzL hY
 have HV := qzL hV
 have HJ := qzL hJ
 have HK := qzL hskip
 have HS := qzL hs
 have v0 := hV 0 W h0
 have x0 := v0.x
 have k10 := v0.h
 clear hY hV hJ hskip hs v0
 refine callsIn_of_wp Tryz.func99 rfl trivial ?_ rfl
 simp only [Tryz.ntmps99, List.size_toArray, List.length_cons, List.length_nil, Nat.reduceAdd, Nat.reduceSub, Array.replicate_succ, Array.replicate_zero, List.push_toArray, List.append_toArray, qzF, qzE]
 gi_wp2
 clear x0 k10
 gi_loopw [10] (fun y wr => ∃ i : Nat, i ≤ N ∧ y = .int .i64 i ∧ Hid (J i wr)) (fun y _ => 2000000 - (intOf y).toNat)
 case atStart => exact ⟨0, by omega, rfl, h0⟩
 case round =>
  obtain ⟨i, hi', rfl, hJi⟩ := hrel
  by_cases hlt : i < N
  case neg =>
   have hin : i = N := by omega
   have HF : Hid (J N wr) := by unfold Hid; rw [← hin]; exact hJi.out
   have tl : decide ((i : Int) < (N : Int)) = false := qzN (by omega)
   clear hin hJi
   gi_wp2
   go_end0
   exact ⟨⟨_, rfl⟩, HF.out⟩
  have tl : decide ((i : Int) < (N : Int)) = true := qzO (by omega)
  have v0 := HV.out i wr hJi.out
  have x0 := v0.x
  have k10 := v0.h
  obtain ⟨x, hxr, m0, m1, m2, m3, m4⟩ := v0.m hlt
  have hix := fun W => xA4 (t := 45) (size := 5) (g := g) (cap := mc) hlt (by kernel_rfl) (fun W => by kernel_rfl) W
  have HR := qzL (xIp x wr)
  clear v0
  cases hr : rs i with
  | false =>
   rw [hr] at hxr
   rw [hxr] at HR
   clear hxr
   gi_wp2
   refine ⟨trivial, ?_⟩
   with_reducible refine (callsIn_wide.2 HR.out).mono ?_
   rintro e w2 ⟨rfl, hb2⟩
   gi_wp2
   refine ⟨fun _ h => (by cases h), ?_⟩
   gi_wp2
   go_roundw
   case rel => exact ⟨i + 1, by omega, by simp, HK.out i _ (HJ.out i _ _ hJi.out (hb2.mono (HS.out i _ hJi.out))) hlt hr⟩
   case measure => simp [intOf]; omega
  | true =>
   rw [hr] at hxr
   rw [hxr] at HR
   clear hxr
   have hlt2 := hlt
   gi_wp2
   refine ⟨trivial, ?_⟩
   with_reducible refine (callsIn_wide.2 HR.out).mono ?_
   rintro e w2 ⟨rfl, hb2⟩
   obtain ⟨fn, tmps, assign, body, hy, hRR⟩ := HY.out i w2 (HJ.out i _ _ hJi.out (hb2.mono (HS.out i _ hJi.out))) hlt hr
   gi_wp2
   refine hRR.mono ?_
   rintro e W3 ⟨rfl, hJ3⟩
   gi_wp2
   go_roundw
   case rel => exact ⟨i + 1, by omega, by simp, hJ3⟩
   case measure => simp [intOf]; omega
def xFf (p : Nat → Prop) (W : World) (I : World → Prop) : Exit → Act → World → Prop
 | .normal, _, W3 => Kept W W3 p ∧ I W3
 | _, _, _ => False
theorem notOut_rr {p : Nat → Prop} {W : World} {I : World → Prop} : ¬ LetsOut (xFf p W I) := fun ⟨_, _, hq⟩ => hq
instance notC_rr {p : Nat → Prop} {W : World} {I : World → Prop} : NotC (xFf p W I) := ⟨notOut_rr⟩
theorem panOk_rr {p : Nat → Prop} {W : World} {I : World → Prop} : xCs (xFf p W I) := fun _ _ _ _ _ h => h
instance panC_rr {p : Nat → Prop} {W : World} {I : World → Prop} : PanC (xFf p W I) := ⟨panOk_rr⟩
theorem xF9 {F' : Fence} {ps : Array Tmp} {assign body : Code} {Q : Exit → Act → World → Prop} {a : Act} {w : World} {g : Operand} (bx b g' N mc : Nat) (hF : F' = Fence.wide)
  (hg : a.eval g = .func (.func 99) #[] #[.pointer (some ⟨bx, 0, none⟩)]) (hps : ps.size = 1) (hN : N ≤ 1000000) (p : Nat → Prop) (hp : ∀ x, p x → x < w.heap.size)
  (rs : Nat → Bool) (I : Nat → World → Prop) (_hs : ∀ i W, I i W → w.heap.size ≤ W.heap.size) (hB : ∀ i W W', I i W → Below w.heap.size W W' → I i W') (hV : ∀ i W, I i W → RV W bx b g' N mc rs i)
  (hskip : ∀ i W, I i W → i < N → rs i = false → I (i + 1) W) (h0 : I 0 w) (a₁ : Nat → Act)
  (hassign : ∀ (l i : Nat) (W : World) (K : Act → World → Prop), K (a₁ i) W → assign.wpIn (Fence.wide.inRound l) (6 - 1 - 1) Tryz.prog (Exit.then K (fun _ _ _ => False)) { tmps := (ps.zip #[.int .i64 (i : Nat)]).foldl (fun t (p, v) => t.setIfInBounds p v) a.tmps, defers := [] } W)
  (hbody : ∀ (l i : Nat) (W : World), I i W → i < N → rs i = true → w.heap.size + 1 < W.heap.size → body.wpIn (Fence.wide.inRound l) (6 - 1 - 1) Tryz.prog (xFf p W (I (i + 1))) (a₁ i) W)
  (hdone : ∀ (D : Nat) (W : World), w.heap.size ≤ D → I N W → W.heap[D]? = some (.deferred (some [])) → Q .normal { a with defers := { target := .collected D, args := #[] } :: a.defers } W) :
  (Code.rangeFunc g ps assign body).wpIn F' 6 Tryz.prog Q a w := by
 subst hF
 refine xD1 rfl (by omega) hg trivial (enters_of Tryz.func99 (by kernel_rfl) rfl) ?_
 rintro l Rec RecX rfl hRec hRecX hlt hround W1 hR1 hb1 hs1
 refine (run1_in (6 - 1) (w.heap.size + 1) bx b g' N mc (w.heap.size + 2) rs (by omega) hN (fun i W => Rec W ∧ I i W) (fun i W h => by have := hlt W h.1; omega)
  (fun i W W' h hb => ⟨hRec W W' h.1 hb, hB i W W' h.2 (hb.mono (by omega))⟩) (fun i W h => hV i W h.2) (fun i W h hi hr => ⟨h.1, hskip i W h.2 hi hr⟩) ?_ W1 ⟨hR1, hB 0 w W1 h0 hb1⟩).mono ?_
 ·intro i W h hi hr
  have hl := hlt W h.1
  obtain ⟨fn, tmps, asg, bd, hy, hR⟩ := hround #[.int .i64 (i : Nat)] W (a₁ i) (I (i + 1)) (fun _ _ => False) h.1 (by simp [hps]) (hassign (w.heap.size + 1) i W) (fun W2 u => by
   refine wpIn_mono (hbody (w.heap.size + 1) i W2 (hB i W W2 h.2 (u.b _ (by omega))) hi hr (by rw [u.s]; exact hl)) ?_
   rintro e a3 W3 hq
   cases e with
   | normal =>
    obtain ⟨hk, hi3⟩ := hq
    have hl2 : w.heap.size + 1 < W2.heap.size := by rw [u.s]; exact hl
    exact ⟨hk.k _ hl2 (fun hx => by have := hp _ hx; omega), hk.k _ (by omega) (fun hx => by have := hp _ hx; omega), fun W4 u4 => hB _ _ _ hi3 (u4.b _ (by omega))⟩
   | ret => exact hq.elim
   | exit id => exact hq.elim
   | goto t => exact hq.elim
   | panic ch => exact hq.elim
   | outgrown => exact hq.elim)
  refine ⟨fn, tmps, asg, bd, hy, hR.mono ?_⟩
  rintro e W' (⟨he, h1, h2⟩ | ⟨_, c, _, h2⟩)
  ·exact ⟨he, h1, h2⟩
  ·exact h2.elim
 ·rintro e W' ⟨hv, h1, h2⟩
  exact ⟨hv, .inl ⟨h1, fun W4 u hK => hdone _ W4 (Nat.le_refl _) (hB _ _ _ h2 (u.b _ (by omega))) hK⟩⟩
def Qs (Q : Exit → Act → World → Prop) : Exit → Act → World → Prop
 | .panic _, _, _ => False
 | e, a, w => Q e a w
theorem panOk_qs {Q : Exit → Act → World → Prop} : xCs (Qs Q) := fun _ _ _ _ _ h => h
instance panC_qs {Q : Exit → Act → World → Prop} : PanC (Qs Q) := ⟨panOk_qs⟩
theorem wp_qs {P : Program} {c : Code} {Q : Exit → Act → World → Prop} {a : Act} {w : World} (h : c.wp P (Qs Q) a w) : c.wp P Q a w := wp_mono h (fun e a w h => by cases e <;> first | exact h | exact h.elim)
def mixM (f : Cla → Mk → Mk) (cl : List Cla) (ms : List Mk) (i : Nat) : List Mk := (List.zipWith f cl ms).take i ++ ms.drop i
section
variable {f : Cla → Mk → Mk} {cl : List Cla} {ms : List Mk} {i : Nat}
theorem xD6 (h : ms.length = cl.length) (hi : i < cl.length) : (mixM f cl ms i)[i]? = ms[i]? := by
 unfold mixM
 have e : ((List.zipWith f cl ms).take i).length = i := by rw [List.length_take, List.length_zipWith]; omega
 rw [List.getElem?_append_right (by omega), e, Nat.sub_self, List.getElem?_drop, Nat.add_zero]
theorem xFj {k : Cla} {x : Mk} (h : ms.length = cl.length) (hk : cl[i]? = some k) (hx : ms[i]? = some x) : mixM f cl ms (i + 1) = (mixM f cl ms i).set i (f k x) := by
 have hi : i < cl.length := (qzM hk).1
 have e : ((List.zipWith f cl ms).take i).length = i := by rw [List.length_take, List.length_zipWith]; omega
 unfold mixM
 rw [List.set_append_right _ _ (by omega), e, Nat.sub_self, List.take_add_one, List.getElem?_zipWith, hk, hx]
 have hd : ms.drop i = x :: ms.drop (i + 1) := by
  rw [List.drop_eq_getElem_cons (by omega)]
  rw [qzJ (by omega)] at hx
  injection hx with hx
  rw [hx]
 rw [hd]
 simp
theorem xHv {k : Cla} {x : Mk} (h : ms.length = cl.length) (hk : cl[i]? = some k) (hx : ms[i]? = some x) (hf : f k x = x) : mixM f cl ms (i + 1) = mixM f cl ms i := by
 rw [xFj h hk hx, hf]
 exact xDc ((xD6 h (qzM hk).1).trans hx)
theorem xEj (h : ms.length = cl.length) : mixM f cl ms cl.length = List.zipWith f cl ms := by
 unfold mixM
 rw [List.take_of_length_le (by rw [List.length_zipWith]; omega), List.drop_eq_nil_of_le (by omega), List.append_nil]
end
def rsOf (ms : List Mk) (i : Nat) : Bool := match ms[i]? with | some x => x.runs | none => false
section
variable {w0 w W W' : World} {b : Nat} {c : Con} {m : Cm} {s : Sta} {q : Qn} {p : Nat → Prop}
theorem Wk.bnd (h : Wk w0 w b c m s q) : b < w.heap.size ∧ q.h < w.heap.size ∧ q.u < w.heap.size ∧ q.m < w.heap.size := ⟨h.g.lt, h.oh.lt_.2, h.ou.lt_.2, h.om.lt_.2⟩
theorem Wk.belowN {n : Nat} (h : Wk w0 W b c m s q) (hb : Below n W W') (hn : b < n ∧ q.h < n ∧ q.u < n ∧ q.m < n) (h0 : w0.heap.size ≤ n) : Wk w0 W' b c m s q :=
 ⟨h.g.below hb hn.1, h.oh.keepB hb (by intro k hk; cases hk; exact hn.2.1), h.ou.keepB hb (by intro k hk; cases hk; exact hn.2.2.1), h.om.keepB hb (by intro k hk; cases hk; exact hn.2.2.2), h.hb.trans (hb.mono h0), h.lb, h.cn, h.lm, h.nh, h.nu⟩
theorem Kept.thenB (h : Kept w W p) (hb : Below w.heap.size W W') : Kept w W' p :=
 ⟨fun B hB hs => (h.b B hB hs).trans (hb.mono hs), fun x hx hp => (hb.block x hx).trans (h.k x hx hp)⟩
theorem Wk.setH (h : Wk w0 w b c m s q) {r : Nat} (v : Int) (hr : r < s.hol.length) : Wk w0 (w.setCell ⟨q.h, r, none⟩ (.int .i64 v)) b c m { s with hol := s.hol.set r v } q := by
 have e : (s.hol.set r v).length = s.hol.length := List.length_set
 obtain ⟨x, hx⟩ : ∃ x, s.hol[r]? = some x := ⟨_, qzJ hr⟩
 refine ⟨?_, ?_, h.ou.setNe (by intro k hk; cases hk; exact h.hu.symm) _, h.om.setNe (by intro k hk; cases hk; exact h.hm.symm) _, h.hb.setCell (p := ⟨q.h, _, none⟩) h.oh.lt_.1 _, h.lb, h.cn, h.lm, by show (s.hol.set r v).length ≤ _; rw [e]; exact h.nh, h.nu⟩
 ·have h2 := h.g.far (p := ⟨q.h, r, none⟩) h.bh (.int .i64 v)
  unfold wkA at h2 ⊢
  rw [show ({ s with hol := s.hol.set r v } : Sta).hol.length = s.hol.length from e]
  exact h2
 ·have h2 := h.oh.setAt xAz rfl (k := r) (j := 0) (y := v) (u := .int .i64 v) hx (by omega) rfl
  rw [show ({ s with hol := s.hol.set r v } : Sta).hol.length = s.hol.length from e]
  simpa using h2
theorem Wk.setU (h : Wk w0 w b c m s q) {r : Nat} (v : Bool) (hr : r < s.used.length) : Wk w0 (w.setCell ⟨q.u, r, none⟩ (.bool v)) b c m { s with used := s.used.set r v } q := by
 have e : (s.used.set r v).length = s.used.length := List.length_set
 obtain ⟨x, hx⟩ : ∃ x, s.used[r]? = some x := ⟨_, qzJ hr⟩
 refine ⟨?_, h.oh.setNe (by intro k hk; cases hk; exact h.hu) _, ?_, h.om.setNe (by intro k hk; cases hk; exact h.um.symm) _, h.hb.setCell (p := ⟨q.u, _, none⟩) h.ou.lt_.1 _, h.lb, h.cn, h.lm, h.nh, by show (s.used.set r v).length ≤ _; rw [e]; exact h.nu⟩
 ·have h2 := h.g.far (p := ⟨q.u, r, none⟩) h.bu (.bool v)
  unfold wkA at h2 ⊢
  rw [show ({ s with used := s.used.set r v } : Sta).used.length = s.used.length from e]
  exact h2
 ·have h2 := h.ou.setAt xBj rfl (k := r) (j := 0) (y := v) (u := .bool v) hx (by omega) rfl
  rw [show ({ s with used := s.used.set r v } : Sta).used.length = s.used.length from e]
  simpa using h2
theorem Wk.setDay (h : Wk w0 w b c m s q) (d : Int) : Wk w0 (w.setCell ⟨b, 7, none⟩ (.int .i64 d)) b c m { s with day := d } q :=
 ⟨h.g.set_ 7 _, h.oh.setNe (by intro k hk; cases hk; exact h.bh.symm) _, h.ou.setNe (by intro k hk; cases hk; exact h.bu.symm) _, h.om.setNe (by intro k hk; cases hk; exact h.bm.symm) _, h.hb.setCell (p := ⟨b, _, none⟩) h.lb _, h.lb, h.cn, h.lm, h.nh, h.nu⟩
theorem Wk.holAt (h : Wk w0 w b c m s q) {r : Nat} {v : Int} (hv : s.hol[r]? = some v) : w.cell? ⟨q.h, r, none⟩ = some (.int .i64 v) ∧ w.frozen? ⟨q.h, r, none⟩ = false := by
 have := h.oh.getAt xAz rfl hv (j := 0) (by omega)
 simpa [eI] using this
theorem Wk.useAt (h : Wk w0 w b c m s q) {r : Nat} {v : Bool} (hv : s.used[r]? = some v) : w.cell? ⟨q.u, r, none⟩ = some (.bool v) ∧ w.frozen? ⟨q.u, r, none⟩ = false := by
 have := h.ou.getAt xBj rfl hv (j := 0) (by omega)
 simpa [eB] using this
end
structure LI (w0 w : World) (b : Nat) (c : Con) (m : Cm) (s : Sta) (q : Qn) (p : Nat → Prop) (f : Cla → Mk → Mk) (bx : Nat) (E : World → Prop) (i : Nat) (W : World) : Prop where
 wk : Wk w0 W b c m { s with marks := mixM f c.cl s.marks i } q
 k : Kept w W p
 x : Blk W bx 98 #[.pointer (some ⟨b, 0, none⟩)]
 e : E W
section
variable {w0 w W W' : World} {b : Nat} {c : Con} {m : Cm} {s : Sta} {q : Qn} {p : Nat → Prop} {f : Cla → Mk → Mk} {bx : Nat} {E : World → Prop} {i : Nat}
theorem LI.start (hW : Wk w0 w b c m s q) (hx : Blk w bx 98 #[.pointer (some ⟨b, 0, none⟩)]) (hE : E w) : LI w0 w b c m s q p f bx E 0 w := ⟨hW, Kept.refl _ _, hx, hE⟩
theorem LI.then_ (h : LI w0 w b c m s q p f bx E i W) (hb : Below w.heap.size W W') (hW : Wk w0 w b c m s q) (hbx : bx < w.heap.size) (hE : ∀ W W', E W → Below w.heap.size W W' → E W') : LI w0 w b c m s q p f bx E i W' :=
 ⟨h.wk.belowN hb hW.bnd hW.hb.size, h.k.thenB hb, h.x.below hb hbx, hE _ _ h.e hb⟩
theorem LI.rv (h : LI w0 w b c m s q p f bx E i W) (hlm : s.marks.length = c.cl.length) (_hi : i ≤ c.cl.length) : RV W bx b q.m c.cl.length q.mc (rsOf s.marks) i := by
 have hl : (mixM f c.cl s.marks i).length = c.cl.length := h.wk.lm
 refine ⟨h.x.cell 0, by rw [← hl]; exact h.wk.g.cell 10, fun hlt => ?_⟩
 obtain ⟨x, hx⟩ : ∃ x, s.marks[i]? = some x := ⟨_, qzJ (by omega)⟩
 have hx2 : (mixM f c.cl s.marks i)[i]? = some x := (xD6 hlm hlt).trans hx
 obtain ⟨⟨m0, _⟩, ⟨m1, _⟩, ⟨m2, _⟩, ⟨m3, _⟩, ⟨m4, _⟩⟩ := h.wk.mark hx2
 exact ⟨x, by unfold rsOf; rw [hx], m0, m1, m2, m3, m4⟩
theorem LI.skip (h : LI w0 w b c m s q p f bx E i W) (hlm : s.marks.length = c.cl.length) (hi : i < c.cl.length) (hr : rsOf s.marks i = false) (hf : ∀ k x, x.runs = false → f k x = x) : LI w0 w b c m s q p f bx E (i + 1) W := by
 obtain ⟨x, hx⟩ : ∃ x, s.marks[i]? = some x := ⟨_, qzJ (by omega)⟩
 obtain ⟨k, hk⟩ : ∃ k, c.cl[i]? = some k := ⟨_, qzJ hi⟩
 unfold rsOf at hr
 rw [hx] at hr
 refine ⟨?_, h.k, h.x, h.e⟩
 rw [xHv hlm hk hx (hf k x hr)]
 exact h.wk
end
section
variable {w0 w W W' : World} {b : Nat} {c : Con} {m : Cm} {s : Sta} {q : Qn} {p : Nat → Prop} {f : Cla → Mk → Mk} {bx : Nat} {E : World → Prop} {i : Nat} {k : Cla} {x y : Mk}
theorem LI.next (h : LI w0 w b c m s q p f bx E i W) (hlm : s.marks.length = c.cl.length) (hk : c.cl[i]? = some k) (hx : s.marks[i]? = some x) (hW : Wk w0 W' b c m { s with marks := (mixM f c.cl s.marks i).set i y } q) (hy : y = f k x) (hK : Kept W W' p) (hxb : ¬ p bx) (hE : E W') : LI w0 w b c m s q p f bx E (i + 1) W' :=
 ⟨by rw [xFj hlm hk hx, ← hy]; exact hW, h.k.trans hK, h.x.kept hK hxb, hE⟩
theorem LI.same (h : LI w0 w b c m s q p f bx E i W) (hlm : s.marks.length = c.cl.length) (hk : c.cl[i]? = some k) (hx : s.marks[i]? = some x) (hy : f k x = x) (hb : Below W.heap.size W W') (hE : E W') : LI w0 w b c m s q p f bx E (i + 1) W' :=
 ⟨by rw [xHv hlm hk hx hy]; exact h.wk.then_ hb, h.k.trans (Kept.of_below hb), h.x.then_ hb, hE⟩
end
theorem xBq {P : Program} {ops : Array Oper} {l : List Oper} {Q : Exit → Act → World → Prop} {a : Act} {w : World} (h : ∀ w', w' = w → wpList P ops Q l a w') : wpList P ops Q l a w := h w rfl
theorem xEe {ps : Array Tmp} {assign body : Code} {Q : Exit → Act → World → Prop} {a : Act} {w w0 : World} {g : Operand} {b : Nat} {c : Con} {m : Cm} {s : Sta} {q : Qn} (bx : Nat) (p0 d : Tmp) (rid : Nat) (o : Oper)
  (hg : a.eval g = .func (.func 99) #[] #[.pointer (some ⟨bx, 0, none⟩)]) (hps : ps = #[p0]) (hp0 : p0 < a.tmps.size) (has : assign = Code.region rid #[o] false) (ho : o.op = .assign (.tmp p0)) (hd : o.dst = some d) (hgd : o.guard = none)
  (hW : Wk w0 w b c m s q) (hx : Blk w bx 98 #[.pointer (some ⟨b, 0, none⟩)]) (p : Nat → Prop) (hp : ∀ x, p x → x < w.heap.size) (f : Cla → Mk → Mk) (hf : ∀ k x, x.runs = false → f k x = x) (E : World → Prop) (hE : ∀ W W', E W → Below w.heap.size W W' → E W') (hE0 : E w)
  (hbody : ∀ (l i : Nat) (k : Cla) (x : Mk) (W : World), LI w0 w b c m s q p f bx E i W → c.cl[i]? = some k → s.marks[i]? = some x → x.runs = true → w.heap.size + 1 < W.heap.size →
   body.wpIn (Fence.wide.inRound l) (6 - 1 - 1) Tryz.prog (xFf p W (LI w0 w b c m s q p f bx E (i + 1))) { tmps := (a.tmps.setIfInBounds p0 (.int .i64 (i : Nat))).setIfInBounds d (.int .i64 (i : Nat)), defers := [] } W)
  (hdone : ∀ (D : Nat) (W : World), w.heap.size ≤ D → LI w0 w b c m s q p f bx E c.cl.length W → W.heap[D]? = some (.deferred (some [])) → Q .normal { a with defers := { target := .collected D, args := #[] } :: a.defers } W) :
  (Code.rangeFunc g ps assign body).wp Tryz.prog Q a w := by
 subst hps has
 refine wpIn_wide.1 (xF9 bx b q.m c.cl.length q.mc rfl hg rfl hW.cn.nk p hp (rsOf s.marks) (fun i W => i ≤ c.cl.length ∧ LI w0 w b c m s q p f bx E i W) (fun i W h => h.2.k.size) (fun i W W' h hb => ⟨h.1, h.2.then_ hb hW hx.lt hE⟩)
  (fun i W h => h.2.rv hW.lm h.1) (fun i W h hi hr => ⟨by omega, h.2.skip hW.lm hi hr hf⟩) ⟨by omega, LI.start hW hx hE0⟩
  (fun i => { tmps := (a.tmps.setIfInBounds p0 (.int .i64 (i : Nat))).setIfInBounds d (.int .i64 (i : Nat)), defers := [] }) ?_ ?_ ?_)
 ·intro l i W K hK
  refine xAe (l := [o]) (by simp [noD, ho]) (xBy (fun ⟨_, _, h⟩ => h)) ?_
  refine wpList_plain hgd fun K' hK' => ?_
  unfold Oper.wp execOp
  simp only [ho]
  refine hK' _ _ ?_
  rw [hd]
  show K _ W
  have e : ({ tmps := (#[p0].zip #[Value.int .i64 (i : Nat)]).foldl (fun t (p, v) => t.setIfInBounds p v) a.tmps, defers := [] } : Act).eval (.tmp p0) = .int .i64 (i : Nat) := by
   simp [Act.eval, hp0]
  rw [e]
  simpa [Act.put] using hK
 ·intro l i W h hi hr hl
  obtain ⟨x, hx⟩ : ∃ x, s.marks[i]? = some x := ⟨_, qzJ (by rw [hW.lm]; exact hi)⟩
  obtain ⟨k, hk⟩ : ∃ k, c.cl[i]? = some k := ⟨_, qzJ hi⟩
  refine wpIn_mono (hbody l i k x W h.2 hk hx (by unfold rsOf at hr; rw [hx] at hr; exact hr) hl) ?_
  rintro e a3 W3 hq
  cases e with
  | normal => exact ⟨hq.1, by omega, hq.2⟩
  | ret => exact hq.elim
  | exit id => exact hq.elim
  | goto t => exact hq.elim
  | panic ch => exact hq.elim
  | outgrown => exact hq.elim
 ·intro D W hD h hK
  exact hdone D W hD h.2 hK
attribute [local go_sem] Oper.semAt_some
theorem xH0 {P : Program} {fn : Func} {R : Ending → World → Prop} {tmps : Array Value} {w : World} (hres : fn.results = #[]) (hR : R (.returned (.tuple #[])) w) : LeavesInM Fence.wide 6 P fn tmps R [] .returning w :=
 ⟨_, results_none hres _ _ _, hR⟩
theorem xHz {P : Program} {fn : Func} {R : Ending → World → Prop} {tmps : Array Value} {w : World} {D : Nat} {ds : List Deferred} (hK : w.heap[D]? = some (.deferred (some []))) (h : LeavesInM Fence.wide 6 P fn tmps R ds .returning (w.putObj D (.deferred none))) :
  LeavesInM Fence.wide 6 P fn tmps R ({ target := .collected D, args := #[] } :: ds) .returning w :=
 ⟨by simp, .inl ⟨_, _, rfl, run_takeDeferred hK, h⟩⟩
theorem qs_ret {P : Program} {fn : Func} {R : Ending → World → Prop} {a : Act} {w : World} (h : LeavesInM Fence.wide 6 P fn a.tmps R a.defers .returning w) : Qs (bodyPostM Fence.wide 6 P fn R) .ret a w := h
theorem xEf {P : Program} {fn : Func} {R : Ending → World → Prop} {a : Act} {w : World} (h : LeavesInM Fence.wide 6 P fn a.tmps R a.defers .returning w) : Qs (bodyPostM Fence.wide 6 P fn R) .normal a w := h
theorem xHo {a : Atc} (k : Cla) (x : Mk) (h : x.runs = false) : xBb a k x = x := by
 unfold xBb
 rw [if_neg (fun ⟨e, _⟩ => by rw [h] at e; cases e)]
abbrev pS (q : Qn) (x : Nat) : Prop := x = q.h ∨ x = q.u ∨ x = q.m
abbrev shS (s : Sta) (n : Nat) (a : Atc) : Sta := { s with hol := s.hol.set a.give.toNat a.to_, used := s.used.set n true }
theorem shift_any (w0 : World) (b : Nat) (c : Con) (m : Cm) (s : Sta) (q : Qn) (n : Nat) (a : Atc) (w : World) (hW : Wk w0 w b c m s q) (ha : c.ac[n]? = some a) (hgv : 0 ≤ a.give ∧ a.give < (s.hol.length : Int)) (hu : n < s.used.length) :
  Calls Tryz.prog 73 #[.pointer (some ⟨b, 0, none⟩), .int .i64 (n : Nat)] w fun e w' => e = .returned (.tuple #[]) ∧
   Wk w0 w' b c m { shS s n a with marks := if a.kind = 3 then List.zipWith (xBb a) c.cl s.marks else s.marks } q ∧ Kept w w' (pS q) := by
 obtain ⟨M, hM⟩ : ∃ M, (if a.kind = 3 then List.zipWith (xBb a) c.cl s.marks else s.marks) = M := ⟨_, rfl⟩
 rw [hM]
 have HM := qzL hM
 clear hM
 have hna : n < c.ac.length := (qzM ha).1
 obtain ⟨g, hg⟩ : ∃ g : Nat, a.give = (g : Int) := ⟨a.give.toNat, by omega⟩
 have hgl : g < s.hol.length := by omega
 obtain ⟨hv, hhv⟩ : ∃ v, s.hol[g]? = some v := ⟨_, qzJ hgl⟩
 obtain ⟨uv, huv⟩ : ∃ v, s.used[n]? = some v := ⟨_, qzJ hu⟩
 obtain ⟨b0, o0, eA0, hb0, hc0⟩ := xAv hW.cont.a ha
 have hix0 := fun W => xAp (t := 24) (size := 7) (cap := m.ac) eA0 hna (by kernel_rfl) (fun W => by kernel_rfl) W
 have hrg0 : w.rangeAt b0 (o0 + n * 7) (aL a) := fun j v hv => hc0 j v hv
 have na := hW.cn.na
 have nh := hW.nh
 have nu := hW.nu
 have hix1 := fun W => xA4 (t := 22) (size := 1) (g := q.h) (cap := q.hc) hgl (by kernel_rfl) (fun W => by kernel_rfl) W
 have hix2 := fun W => xA4 (t := 44) (size := 1) (g := q.u) (cap := q.uc) hu (by kernel_rfl) (fun W => by kernel_rfl) W
 simp only [Nat.mul_one] at hix1 hix2
 have HW := qzL hW
 have HG := qzL hg
 have HHV := qzL hhv
 have HUV := qzL huv
 clear hW ha hgv hc0 eA0 hg hhv huv
 refine (callsIn_wide (n := 6)).1 ?_
 refine callsIn_of_wp_marks Tryz.func73 rfl trivial ?_
 simp only [Tryz.ntmps73, List.size_toArray, List.length_cons, List.length_nil, Nat.reduceAdd, Nat.reduceSub, Array.replicate_succ, Array.replicate_zero, List.push_toArray, List.append_toArray, qzF, qzE]
 refine wpIn_wide.2 ?_
 refine wp_qs ?_
 go_upto_region 1 with (fail)
 refine xAi ?_
 intro X hX
 have gx : Blk X w.heap.size 98 #[.pointer (some ⟨b, 0, none⟩)] := by rw [hX]; exact Blk.new _ _ _
 have hbX : Below w.heap.size w X := by rw [hX]; exact wa1 _ _
 obtain ⟨bx, ebx⟩ : ∃ b, w.heap.size = b := ⟨_, rfl⟩
 have HEX : Hid (w.heap.size = bx) := ebx
 rw [ebx] at gx ⊢
 clear hX ebx
 have hWX := qzL (HW.out.then_ hbX)
 have hrg : X.rangeAt b0 (o0 + n * 7) (aL a) := fun j v hv => (hbX.cell (p := ⟨b0, _, none⟩) hb0).trans (hrg0 j v hv)
 have x0 : X.cell? ⟨bx, 0, none⟩ = some (.pointer (some ⟨b, 0, none⟩)) := gx.cell 0
 have k3 : X.cell? ⟨b, 3, none⟩ = some (.slice m.a c.ac.length m.ac) := hWX.out.g.cell 3
 clear hrg0
 go_upto_region 2 with ((refine xAm 92 el7 _ _ _ rfl rfl rfl rfl rfl rfl rfl rfl rfl b0 _ rfl (aL a) rfl hrg (by simp [Value.oneCell']) (by decide) (by simp) (by simp) ?_; simp only [Act.put, qzG, qzH, qzI]))
 refine xAi ?_
 intro Y hY
 have ga : Blk Y X.heap.size 92 (aL a).toArray := by rw [hY]; exact Blk.new _ _ _
 have hbY : Below X.heap.size X Y := by rw [hY]; exact wa1 _ _
 have gxY := gx.then_ hbY
 have hWY := qzL (hWX.out.then_ hbY)
 have HB : Hid (Below w.heap.size w Y) := xAa hbX hbY
 obtain ⟨ba, eba⟩ : ∃ b, X.heap.size = b := ⟨_, rfl⟩
 have hla : Hid (w.heap.size ≤ bx ∧ w.heap.size ≤ ba) := ⟨by have := HEX.out; omega, by have := hbX.size; omega⟩
 rw [eba] at ga ⊢
 clear hY eba hrg x0 k3 hWX gx hbX hbY
 have x0 : Y.cell? ⟨bx, 0, none⟩ = some (.pointer (some ⟨b, 0, none⟩)) := gxY.cell 0
 have k8 : Y.cell? ⟨b, 8, none⟩ = some (.slice (some ⟨q.h, 0, none⟩) s.hol.length q.hc) := hWY.out.g.cell 8
 have a2 : Y.cell? ⟨ba, 2, none⟩ = some (.int .i64 (g : Int)) := by rw [← HG.out]; exact ga.cell 2
 have a3 : Y.cell? ⟨ba, 3, none⟩ = some (.int .i64 a.to_) := ga.cell 3
 have rg0 := cR x0
 have rg1 := cR k8
 have rg2 := cR a2
 have rg3 := cR a3
 refine xBm [] [0, 1, 2, 3, 4, 5, 6, 7, 8] [9, 10] (by kernel_rfl) (by kernel_rfl) pO ?_
 simp only [xAn, qzA, qzB, qzC, qzD, qzE, qzF]
 repeat (go_big_quiet_step (skip))
 refine wpQuiet_nil ?_
 intro Z hw2
 have hbZ := xAj hw2
 clear hw2 rg0 rg1 rg2 rg3
 have hWZ := qzL (hWY.out.then_ hbZ)
 have gxZ := gxY.then_ hbZ
 have gaZ := ga.then_ hbZ
 have HBZ := qzL (xAa HB.out hbZ)
 obtain ⟨h0, hf0⟩ := hWZ.out.holAt HHV.out
 clear x0 k8 a2 a3 hWY gxY ga hbZ HB
 go_upto_region 3 with (fail)
 refine xAi ?_
 intro U hU
 have hW1 := hWZ.out.setH a.to_ hgl
 rw [← hU] at hW1
 have hK1 : Kept w U (pS q) := by rw [hU]; exact (Kept.of_below HBZ.out).setCell (.inl rfl)
 have uU : Upd Z U q.h := by rw [hU]; exact (Upd.refl _ _).setCell _ _
 have bdx : bx ≠ q.h ∧ bx ≠ q.u ∧ bx ≠ q.m ∧ ba ≠ q.h ∧ ba ≠ q.u ∧ ba ≠ q.m ∧ bx ≠ b ∧ ba ≠ b := by
  have h1 := HW.out.bnd
  have h2 := hla.out
  omega
 have gxU := gxZ.upd uU bdx.1
 have gaU := gaZ.upd uU bdx.2.2.2.1
 have hWU := qzL hW1
 have HKU := qzL hK1
 clear hU hW1 hK1 uU gxZ gaZ h0 hf0 hWZ HBZ
 have x0 : U.cell? ⟨bx, 0, none⟩ = some (.pointer (some ⟨b, 0, none⟩)) := gxU.cell 0
 have k9 : U.cell? ⟨b, 9, none⟩ = some (.slice (some ⟨q.u, 0, none⟩) s.used.length q.uc) := hWU.out.g.cell 9
 obtain ⟨u0, uf0⟩ := hWU.out.useAt HUV.out
 go_upto_region 4 with (fail)
 refine xAi ?_
 intro V hV
 have hW1 := hWU.out.setU true hu
 rw [← hV] at hW1
 have hK1 : Kept w V (pS q) := by rw [hV]; exact HKU.out.setCell (.inr (.inl rfl))
 have uV : Upd U V q.u := by rw [hV]; exact (Upd.refl _ _).setCell _ _
 have gxV := gxU.upd uV bdx.2.1
 have gaV := gaU.upd uV bdx.2.2.2.2.1
 have hWV : Hid (Wk w0 V b c m (shS s n a) q) := by unfold Hid shS; rw [HG.out, Int.toNat_natCast]; exact hW1
 have HKV := qzL hK1
 clear hV hW1 hK1 uV gxU gaU x0 k9 u0 uf0 hWU HKU
 have a0 : V.cell? ⟨ba, 0, none⟩ = some (.int .i64 a.kind) := gaV.cell 0
 cases t3 : (a.kind == 3) with
 | false =>
  have t3' : (a.kind != 3) = true := by simp [bne, t3]
  have hf : Hid (M = s.marks) := by unfold Hid; rw [← HM.out, if_neg (by simpa using t3)]
  go_wp2
  refine qs_ret (xH0 rfl ?_)
  rw [hf.out]
  exact ⟨rfl, hWV.out, HKV.out⟩
 | true =>
 have t3' : (a.kind != 3) = false := by simp [bne, t3]
 have hf : Hid (M = List.zipWith (xBb a) c.cl s.marks) := by unfold Hid; rw [← HM.out, if_pos (by simpa using t3)]
 have x0 : V.cell? ⟨bx, 0, none⟩ = some (.pointer (some ⟨b, 0, none⟩)) := gxV.cell 0
 have HRN := qzL (fun W => xCt b W)
 go_wp2_with (go_at_call 69; (with_reducible refine (HRN.out _).mono ?_); rintro e w1 ⟨rfl, hw1⟩; have HW1 := qzL hw1; clear hw1)
 have hw1 := HW1.out
 have hb1 : Below V.heap.size V w1 := by rw [hw1]; exact wa1 _ _
 have gy : Blk w1 V.heap.size 98 #[.pointer (some ⟨b, 0, none⟩)] := by rw [hw1]; exact Blk.new _ _ _
 have hs1 : w1.heap.size = V.heap.size + 1 := by rw [hw1]; simp
 have hW1 := qzL (hWV.out.then_ hb1)
 have hK1 := qzL (HKV.out.trans (Kept.of_below hb1))
 have gx1 := gxV.then_ hb1
 have ga1 := gaV.then_ hb1
 have hlV : Hid (bx < V.heap.size ∧ ba < V.heap.size) := ⟨gxV.lt, gaV.lt⟩
 have hby : Hid (¬ pS q V.heap.size) := by have := hWV.out.bnd; unfold Hid pS; omega
 obtain ⟨by_, eby⟩ : ∃ b, V.heap.size = b := ⟨_, rfl⟩
 rw [eby] at gy hby ⊢
 clear hw1 HW1 HRN x0 a0 gxV gaV hWV HKV
 refine xEe by_ _ _ _ _ rfl rfl (by simp) rfl rfl rfl rfl hW1.out gy (pS q) (by have := hW1.out.bnd; rintro x (rfl | rfl | rfl) <;> omega) (xBb a) xHo
  (fun W => Blk W bx 98 #[.pointer (some ⟨b, 0, none⟩)] ∧ Blk W ba 92 (aL a).toArray) (fun W W' h hb => ⟨h.1.below hb gx1.lt, h.2.below hb ga1.lt⟩) ⟨gx1, ga1⟩ ?_ ?_
 ·intro l i k x W hI hk hx hr hlW
  simp only [qzG, qzH, qzI]
  have hlm : s.marks.length = c.cl.length := hW1.out.lm
  have hik : i < c.cl.length := (qzM hk).1
  have nk := hW1.out.cn.nk
  obtain ⟨kx, hkx, hkk⟩ := xC3 hI.wk.cn.e hk
  obtain ⟨b2, o2, eA2, hb2, hc2⟩ := xAv hI.wk.cont.k hkx
  have hrg : W.rangeAt b2 (o2 + i * 16) (kL kx) := fun j v hv => hc2 j v hv
  have hix3 := fun W => xAp (t := 25) (size := 16) (cap := m.kc) eA2 hik (by kernel_rfl) (fun W => by kernel_rfl) W
  have hx2 : (mixM (xBb a) c.cl s.marks i)[i]? = some x := (xD6 hlm hik).trans hx
  have HI := qzL hI
  have HK := qzL hk
  have HX := qzL hx
  have HLM := qzL hlm
  have HXR := qzL hr
  have x0 : W.cell? ⟨bx, 0, none⟩ = some (.pointer (some ⟨b, 0, none⟩)) := hI.e.1.cell 0
  have k4 : W.cell? ⟨b, 4, none⟩ = some (.slice m.k c.cl.length m.kc) := hI.wk.g.cell 4
  clear hI hk hx hr hlm hc2 eA2 hkx
  have HWm := HI.out.wk
  obtain ⟨ms', hms⟩ : ∃ l, mixM (xBb a) c.cl s.marks i = l := ⟨_, rfl⟩
  have HMS := qzL hms
  rw [hms] at hx2 HWm
  have hil : i < ms'.length := (qzM hx2).1
  have nms : ms'.length ≤ 1000000 := HWm.nm
  have hix4 := fun W => xA4 (t := 45) (size := 5) (g := q.m) (cap := q.mc) hil (by kernel_rfl) (fun W => by kernel_rfl) W
  have HX2 := qzL hx2
  have HWM := qzL HWm
  clear hms hx2 HWm
  cases hkd : (k.kind != 4) with
  | false =>
   have hsame : Hid (xBb a k x = x) := by unfold Hid xBb; rw [if_neg (fun ⟨_, e, _⟩ => by simp [bne] at hkd; exact e hkd)]
   gi_step
   gi_step
   gi_step
   (with_reducible refine xAe ?_ ?_ ?_; (focus kernel_rfl); exact nO)
   go_wp2_with ((refine xAm 95 el16 _ _ _ rfl rfl rfl rfl rfl rfl rfl rfl rfl b2 _ rfl (kL kx) rfl hrg (by simp [Value.oneCell']) (by decide) (by simp) (by simp) ?_; simp only [Act.put, qzG, qzH, qzI]; refine xBq ?_; intro Y hY; have gk : Blk Y W.heap.size 95 (kL kx).toArray := (by rw [hY]; exact Blk.new _ _ _); have HY : Hid (Below W.heap.size W Y) := (by rw [hY]; exact wa1 _ _); have c0 : Y.cell? ⟨W.heap.size, 0, none⟩ = some (.int .i64 k.kind) := (by rw [← hkk]; exact gk.cell 0); clear hY gk))
   gi_step
   (with_reducible refine xAe ?_ ?_ ?_; (focus kernel_rfl); exact nO)
   go_wp2
   gi_wp2
   exact ⟨Kept.of_below HY.out, HI.out.same HLM.out HK.out HX.out hsame.out HY.out ⟨HI.out.e.1.then_ HY.out, HI.out.e.2.then_ HY.out⟩⟩
  | true =>
  cases hkr : (k.role == (g : Int)) with
  | false =>
   have hsame : Hid (xBb a k x = x) := by unfold Hid xBb; rw [if_neg (fun ⟨_, _, e⟩ => by rw [e, HG.out] at hkr; simp at hkr)]
   gi_step
   gi_step
   gi_step
   (with_reducible refine xAe ?_ ?_ ?_; (focus kernel_rfl); exact nO)
   go_wp2_with ((refine xAm 95 el16 _ _ _ rfl rfl rfl rfl rfl rfl rfl rfl rfl b2 _ rfl (kL kx) rfl hrg (by simp [Value.oneCell']) (by decide) (by simp) (by simp) ?_; simp only [Act.put, qzG, qzH, qzI]; refine xBq ?_; intro Y hY; have gk : Blk Y W.heap.size 95 (kL kx).toArray := (by rw [hY]; exact Blk.new _ _ _); have HY : Hid (Below W.heap.size W Y) := (by rw [hY]; exact wa1 _ _); have c0 : Y.cell? ⟨W.heap.size, 0, none⟩ = some (.int .i64 k.kind) := (by rw [← hkk]; exact gk.cell 0); have c1 : Y.cell? ⟨W.heap.size, 1, none⟩ = some (.int .i64 k.role) := (by rw [← hkk]; exact gk.cell 1); have a2 : Y.cell? ⟨ba, 2, none⟩ = some (.int .i64 (g : Int)) := (by rw [← HG.out]; exact (HI.out.e.2.then_ HY.out).cell 2); clear hY gk))
   gi_step
   (with_reducible refine xAe ?_ ?_ ?_; (focus kernel_rfl); exact nO)
   go_wp2
   gi_wp2
   exact ⟨Kept.of_below HY.out, HI.out.same HLM.out HK.out HX.out hsame.out HY.out ⟨HI.out.e.1.then_ HY.out, HI.out.e.2.then_ HY.out⟩⟩
  | true =>
   have hnov : Hid ({ x with brr := a.to_ } = xBb a k x) := by
    unfold Hid xBb; rw [if_pos ⟨HXR.out, by simpa [bne] using hkd, by rw [HG.out]; simpa using hkr⟩]
   gi_step
   gi_step
   gi_step
   (with_reducible refine xAe ?_ ?_ ?_; (focus kernel_rfl); exact nO)
   go_wp2_with ((refine xAm 95 el16 _ _ _ rfl rfl rfl rfl rfl rfl rfl rfl rfl b2 _ rfl (kL kx) rfl hrg (by simp [Value.oneCell']) (by decide) (by simp) (by simp) ?_; simp only [Act.put, qzG, qzH, qzI]; refine xBq ?_; intro Y hY; have gk : Blk Y W.heap.size 95 (kL kx).toArray := (by rw [hY]; exact Blk.new _ _ _); have HY : Hid (Below W.heap.size W Y) := (by rw [hY]; exact wa1 _ _); have c0 : Y.cell? ⟨W.heap.size, 0, none⟩ = some (.int .i64 k.kind) := (by rw [← hkk]; exact gk.cell 0); have c1 : Y.cell? ⟨W.heap.size, 1, none⟩ = some (.int .i64 k.role) := (by rw [← hkk]; exact gk.cell 1); have a2 : Y.cell? ⟨ba, 2, none⟩ = some (.int .i64 (g : Int)) := (by rw [← HG.out]; exact (HI.out.e.2.then_ HY.out).cell 2); clear hY gk))
   gi_step
   (with_reducible refine xAe ?_ ?_ ?_; (focus kernel_rfl); exact nO)
   go_wp2
   gi_wp2
   have x0' : Y.cell? ⟨bx, 0, none⟩ = some (.pointer (some ⟨b, 0, none⟩)) := (HI.out.e.1.then_ HY.out).cell 0
   have k10 : Y.cell? ⟨b, 10, none⟩ = some (.slice (some ⟨q.m, 0, none⟩) ms'.length q.mc) := (HWM.out.then_ HY.out).g.cell 10
   have a3 : Y.cell? ⟨ba, 3, none⟩ = some (.int .i64 a.to_) := (HI.out.e.2.then_ HY.out).cell 3
   have rg0 := cR x0'
   have rg1 := cR k10
   have rg2 := cR a3
   refine xAx [] [0, 1, 2, 3, 4, 5, 6, 7] [8, 9, 10] (by kernel_rfl) nO (by kernel_rfl) (by kernel_rfl) pO ?_
   simp only [xAn, qzA, qzB, qzC, qzD, qzE, qzF]
   repeat (go_big_quiet_step (skip))
   refine wpQuiet_nil ?_
   intro Z hw2
   have hbZ := xAj hw2
   clear hw2 rg0 rg1 rg2
   have HZ : Hid (Below W.heap.size W Z) := xAa HY.out hbZ
   have HWZ := qzL (HWM.out.then_ HZ.out)
   obtain ⟨_, _, _, ⟨m3, f3⟩, _⟩ := HWZ.out.mark HX2.out
   go_wp2
   have hW9 := HWZ.out.setM (j := 3) (y := { x with brr := a.to_ }) (v := .int .i64 a.to_) HX2.out (by omega) rfl
   have hK9 : Kept W (Z.setCell ⟨q.m, i * 5 + 3, none⟩ (.int .i64 a.to_)) (pS q) := (Kept.of_below HZ.out).setCell (.inr (.inr rfl))
   exact ⟨hK9, HI.out.next HLM.out HK.out HX.out (by rw [HMS.out]; exact hW9) hnov.out hK9 hby.out ⟨HI.out.e.1.kept hK9 (by unfold pS; omega), HI.out.e.2.kept hK9 (by unfold pS; omega)⟩⟩
 ·intro D W hD hI hK
  refine xEf (xHz hK (xH0 rfl ?_))
  have hu := Upd.putObj (.deferred none) (Array.getElem?_eq_some_iff.1 hK).1
  have hb2 : Below w1.heap.size W (W.putObj D (.deferred none)) := hu.b _ hD
  have hW2 := hI.wk.belowN hb2 hW1.out.bnd hW1.out.hb.size
  rw [xEj hW1.out.lm] at hW2
  rw [hf.out]
  exact ⟨rfl, hW2, hK1.out.trans (hI.k.thenB hb2)⟩
open Go.Sort
def befN (a : Int) (l : List Int) : Nat := l.countP fun h => decide (h < a)
theorem nan_any (x : Int) (w : World) : Calls Tryz.prog 98 #[.int .i64 x] w fun e w' => e = .returned (.bool false) ∧ w = w' := by
 go_enter Tryz.func98, Tryz.ntmps98
 go_wp2
 go_ret
 exact ⟨by simp, rfl⟩
theorem cnan_any (x : Int) (w : World) : Calls Tryz.prog 111 #[.int .i64 x] w fun e w' => e = .returned (.bool false) ∧ w = w' := by
 go_enter Tryz.func111, Tryz.ntmps111
 go_wp2
 go_ret
 exact ⟨by simp, rfl⟩
theorem less_any (x y : Int) (w : World) : Calls Tryz.prog 97 #[.int .i64 x, .int .i64 y] w fun e w' => e = .returned (.bool (decide (x < y))) ∧ w = w' := by
 go_enter Tryz.func97, Tryz.ntmps97
 go_wp2_with (go_at_call 111; refine (cnan_any _ _).mono ?_; rintro e w1 ⟨rfl, rfl⟩)
 go_ret
 exact ⟨rfl, rfl⟩
theorem hbb (b : Bool) : b = true ∨ b = false := by cases b <;> simp
theorem befN_is {t : Int} : ∀ {zs : List Int} {i : Nat}, i ≤ zs.length → (∀ k x, k < i → zs[k]? = some x → x < t) → (∀ k x, i ≤ k → zs[k]? = some x → t ≤ x) → befN t zs = i
 | [], i, h, _, _ => by simp at h; subst h; rfl
 | z :: zs, 0, _, _, h2 => by
  unfold befN
  rw [List.countP_eq_zero]
  intro x hx
  obtain ⟨k, hk, rfl⟩ := List.getElem_of_mem hx
  have := h2 k _ (by omega) (qzJ hk)
  simp; omega
 | z :: zs, i + 1, h, h1, h2 => by
  have hz := h1 0 z (by omega) rfl
  have ih := befN_is (t := t) (zs := zs) (i := i) (by simpa using h) (fun k x hk hx => h1 (k + 1) x (by omega) (by simpa using hx)) (fun k x hk hx => h2 (k + 1) x (by omega) (by simpa using hx))
  unfold befN at ih ⊢
  rw [List.countP_cons, ih]
  simp [hz]
theorem xCy {zs : List Int} (hp : zs.Pairwise (· < ·)) {i j : Nat} {x y : Int} (hx : zs[i]? = some x) (hy : zs[j]? = some y) (h : i < j) : x < y := by
 obtain ⟨h1, rfl⟩ := qzM hx
 obtain ⟨h2, rfl⟩ := qzM hy
 exact List.pairwise_iff_getElem.1 hp i j h1 h2 h
theorem tup_ib {a a' : Int} {b b' : Bool} (h1 : a = a') (h2 : b = b') : Ending.returned (.tuple #[.int .i64 a, .bool b]) = .returned (.tuple #[.int .i64 a', .bool b']) := by rw [h1, h2]
theorem bs_any (A : Option Addr) (zs : List Int) (c : Nat) (t : Int) (w : World) (hl : zs.length ≤ 1000000) (hp : zs.Pairwise (· < ·)) (hm : Seg w w.heap.size 1 (fun x : Int => [Value.int .i64 x]) A zs) :
  Calls Tryz.prog 68 #[.slice A zs.length c, .int .i64 t] w fun e w' => e = .returned (.tuple #[.int .i64 (befN t zs), .bool (zs.contains t)]) ∧ w = w' := by
 have HM := qzL hm
 have HP := qzL hp
 clear hm hp
 go_enter Tryz.func68, Tryz.ntmps68
 go_wp2
 go_loop [7, 8] (fun a b => ∃ i j : Nat, i ≤ j ∧ j ≤ zs.length ∧ a = .int .i64 i ∧ b = .int .i64 j ∧ Hid ((∀ k x, k < i → zs[k]? = some x → x < t) ∧ (∀ k x, j ≤ k → zs[k]? = some x → t ≤ x))) (fun a b => (intOf b).toNat - (intOf a).toNat)
 case atStart => exact ⟨0, zs.length, by omega, by omega, rfl, rfl, ⟨fun k x hk _ => by omega, fun k x hk hx => by have := (qzM hx).1; omega⟩⟩
 case round =>
  obtain ⟨i, j, hij, hj, rfl, rfl, hN⟩ := hrel
  by_cases hlt : i < j
  ·obtain ⟨h, hh⟩ : ∃ h : Nat, h = (i + j) / 2 := ⟨_, rfl⟩
   have q1 : i ≤ h := by omega
   have q2 : h < j := by omega
   have HE := qzL (show ((i : Int) + (j : Int)) / 2 = (h : Int) by omega)
   clear hh
   obtain ⟨x, hx⟩ : ∃ x, zs[h]? = some x := ⟨_, qzJ (by omega)⟩
   obtain ⟨b, off, rfl, hb, hcell⟩ := HM.out h x hx
   have c0 := hcell 0 _ rfl
   simp only [Nat.mul_one, Nat.add_zero] at c0
   have HX := qzL hx
   have HC := qzL hcell
   clear hx hcell
   go_upto_region 5 with (fail)
   rw [HE.out]
   rcases hbb (decide (x < t)) with ht | ht
   ·go_wp2_with (go_at_call 97; refine (less_any _ _ _).mono ?_; rintro e w1 ⟨rfl, rfl⟩)
    go_round
    case rel =>
     refine ⟨h + 1, j, by omega, hj, by go_num, rfl, fun k y hk hy => ?_, hN.out.2⟩
     rcases Nat.lt_or_ge k h with q | q
     ·have := xCy HP.out hy HX.out q
      have := of_decide_eq_true ht
      omega
     ·obtain rfl : k = h := by omega
      have := HX.out.symm.trans hy
      cases this
      exact of_decide_eq_true ht
    case measure => simp [intOf]; omega
   ·go_wp2_with (go_at_call 97; refine (less_any _ _ _).mono ?_; rintro e w1 ⟨rfl, rfl⟩)
    go_round
    case rel =>
     refine ⟨i, h, by omega, by omega, rfl, rfl, hN.out.1, fun k y hk hy => ?_⟩
     have hx' := of_decide_eq_false ht
     rcases Nat.lt_or_ge h k with q | q
     ·have := xCy HP.out HX.out hy q
      omega
     ·obtain rfl : k = h := by omega
      have := HX.out.symm.trans hy
      cases this
      omega
    case measure => simp [intOf]; omega
  ·obtain rfl : i = j := by omega
   have hB := befN_is hj hN.out.1 hN.out.2
   by_cases hlt2 : i < zs.length
   ·obtain ⟨x, hx⟩ : ∃ x, zs[i]? = some x := ⟨_, qzJ (by omega)⟩
    obtain ⟨b, off, rfl, hb, hcell⟩ := HM.out i x hx
    have c0 := hcell 0 _ rfl
    simp only [Nat.mul_one, Nat.add_zero] at c0
    have HX := qzL hx
    have HB := qzL hB
    have HN := qzL hN
    clear hx hcell hB
    rcases hbb (x == t) with ht | ht
    ·go_wp2_with (go_at_call 98; refine (nan_any _ _).mono ?_; rintro e w1 ⟨rfl, rfl⟩)
     go_ret2
     refine ⟨?_, rfl⟩
     exact tup_ib (by rw [HB.out]) (by rw [eq_of_beq ht] at HX; exact (qzO (qzK HX.out)).symm)
    ·go_wp2_with (go_at_call 98; refine (nan_any _ _).mono ?_; rintro e w1 ⟨rfl, rfl⟩)
     go_ret2
     have hno : t ∉ zs := fun hm => by
      obtain ⟨k, hk⟩ := List.getElem?_of_mem hm
      have hx' := HX.out
      rcases Nat.lt_trichotomy k i with q | q | q
      ·have := HN.out.out.1 k t q hk; omega
      ·subst q; rw [hk] at hx'; cases hx'; simp at ht
      ·have h1 := xCy HP.out hx' hk q
       have h2 := HN.out.out.2 i x (by omega) hx'
       omega
     exact ⟨tup_ib (by rw [HB.out]) (by first | exact (qzN hno).symm | (simp; exact hno)), rfl⟩
   ·have HB := qzL hB
    have HN := qzL hN.out
    clear hB hN
    go_wp2
    go_ret2
    have hno : t ∉ zs := fun hm => by
     obtain ⟨k, hk⟩ := List.getElem?_of_mem hm
     have hl := (qzM hk).1
     have := HN.out.1 k t (by omega) hk
     omega
    exact ⟨tup_ib (by rw [HB.out]) (by first | exact (qzN hno).symm | (simp; exact hno)), rfl⟩
theorem incO_pw {days : Int} : ∀ {l : List Int} {last : Int}, incO days last l = true → l.Pairwise (· < ·) ∧ (∀ x ∈ l, last < x)
 | [], _, _ => ⟨.nil, by simp⟩
 | d :: l, last, h => by
  simp only [incO, Bool.and_eq_true, decide_eq_true_eq] at h
  obtain ⟨h1, h2⟩ := incO_pw h.2
  refine ⟨List.pairwise_cons.2 ⟨h2, h1⟩, fun x hx => ?_⟩
  rcases List.mem_cons.1 hx with rfl | hx
  ·exact h.1.1
  ·have := h2 x hx; omega
theorem ok_off {c : Con} (h : c.ok = true) : c.off.Pairwise (· < ·) := by
 unfold Con.ok Con.framed at h
 simp only [Bool.and_eq_true] at h
 exact (incO_pw h.1.2.2).1
theorem free_any (A : Option Addr) (zs : List Int) (c : Nat) (t : Int) (w : World) (hl : zs.length ≤ 1000000) (hp : zs.Pairwise (· < ·)) (hm : Seg w w.heap.size 1 eI A zs) (n : Nat) (fr : Bool) (hn : befN t zs = n) (hf : zs.contains t = fr) :
  Calls Tryz.prog 68 #[.slice A zs.length c, .int .i64 t] w fun e w' => e = .returned (.tuple #[.int .i64 n, .bool fr]) ∧ Below w.heap.size w w' :=
 (bs_any A zs c t w hl hp hm).mono fun e w' ⟨h1, h2⟩ => ⟨by rw [h1, hn, hf], h2 ▸ Below.refl _ _⟩
def cls {S : Type} (g : S → World) : World → Prop := fun x => ∃ s, x = g s
def Good (w0 : World) (S : Type) (g : S → World) : Prop := (∀ s, Below w0.heap.size w0 (g s)) ∧ (∀ s x, Below (g s).heap.size (g s) x → ∃ s', x = g s') ∧ Nonempty S
section
variable {P : Program} {ops : Array Oper} {md : Region.Mode} {C : World → Prop}
def hdR (P : Program) (md : Region.Mode) (ops : Array Oper) (C : World → Prop) (hs : List Nat) (E : Array Bool → Bool) (L : Act → Prop) : Nat → Array Bool → Act → Prop
 | 0, listed, a => (overB md ops hs listed = true ∧ E listed = true) ∧ L a
 | f + 1, listed, a => Region.ready md ops listed ≠ [] ∧ ∀ i ∈ Region.ready md ops listed, hs.contains i = true ∧ qOp P ops C i (hdR P md ops C hs E L f (listed.setIfInBounds i true)) a
theorem xEv {hs : List Nat} {E : Array Bool → Bool} {L : Act → Prop} {g : Nat} {Q' : Exit → Act → World → Prop} (hL : ∀ listed a w, C w → E listed = true → L a → wpAny P md ops Q' g listed a w) :
  ∀ (f : Nat) (listed : Array Bool) (a : Act) (w : World), C w → hdR P md ops C hs E L f listed a → wpAny P md ops Q' (f + g) listed a w
 | 0, listed, a, w, hw, h => by rw [Nat.zero_add]; exact hL _ _ _ hw h.1.2 h.2
 | f + 1, listed, a, w, hw, h => by
  rw [show f + 1 + g = (f + g) + 1 by omega]
  exact ⟨fun h0 => absurd h0 h.1, fun i hi => wpOp_of_qOp hw (fun a' w' hw' h' => xEv hL f _ a' w' hw' h') (h.2 i hi).2⟩
def dirA (md : Region.Mode) (ops : Array Oper) (hs ps : List Nat) (m : Nat) : Bool :=
 (List.range ops.size).all fun t => t == m || hs.contains t || (hs.all (fun i => anc md ops ops.size t i) && (ps.contains t || anc md ops ops.size t m))
theorem xGr {hs ps : List Nat} {m t i : Nat} {listed : Array Bool} (h : dirA md ops hs ps m = true) (hcl : Cl md ops listed) (htm : t ≠ m) (ht : hs.contains t = false) (hi : i ∈ hs) (hu : listed.getD i true = false) : t ∉ Region.ready md ops listed := by
 intro hr
 obtain ⟨_, ot, hot, hall⟩ := mem_ready.1 hr
 have h1 := List.all_eq_true.1 h t (List.mem_range.2 (Array.getElem?_eq_some_iff.1 hot).1)
 have htm' : (t == m) = false := by simpa using htm
 rw [htm', ht] at h1
 simp only [Bool.false_or, Bool.and_eq_true, List.all_eq_true] at h1
 have h2 : anc md ops ops.size t i = true := h1.1 i hi
 have h3 := xC6 hcl _ t i ot hot hall h2
 rw [getD_both hu] at h3
 cases h3
theorem xDv {listed : Array Bool} {i j : Nat} (h : listed.getD j true = true) : (listed.setIfInBounds i true).getD j true = true := by
 by_cases hij : i = j
 ·subst hij
  rcases Nat.lt_or_ge i listed.size with h' | h'
  ·simp [h']
  ·simp
 ·rw [getD_set_ne true hij]; exact h
theorem hdA_first {hs ps : List Nat} {E : Array Bool → Bool} {L : Act → Prop} {m i : Nat} {oi : Oper} {v : Value} (hi : ops[i]? = some oi) (hsel : ∀ (j : Nat) (o : Oper) cs b, ops[j]? = some o → o.op ≠ .select cs b) (hd : dirA md ops hs ps m = true) (hin : i ∈ hs) :
  ∀ (f : Nat) (listed : Array Bool) (a : Act), listed.getD m true = true → Cl md ops listed →
   (∀ j oj, ops[j]? = some oj → j ≠ i → listed.getD j true = false → (∀ e ∈ oj.after, Region.binds md e = true → e.on ≠ i) → oi.apart ops oj = true) →
   i ∈ Region.ready md ops listed → YieldsIn P ops C oi v a → hdR P md ops C hs E L f (listed.setIfInBounds i true) (a.put oi.dst v) → hdR P md ops C hs E L (f + 1) listed a := by
 intro f
 induction f with
 | zero =>
  intro listed a hm hcl _ hr hy H
  have hun := (mem_ready.1 hr).1
  refine ⟨fun h => (by rw [h] at hr; cases hr), fun j hj => ?_⟩
  have hjm : j ≠ m := fun e => by
   have h5 := (mem_ready.1 hj).1
   rw [e, hm] at h5; cases h5
  have hjn : hs.contains j = true := by
   cases hc : hs.contains j with
   | true => rfl
   | false => exact absurd hj (xGr hd hcl hjm hc hin hun)
  refine ⟨hjn, ?_⟩
  by_cases hji : j = i
  ·subst hji; exact hy.qOp hi H
  ·have h5 := List.all_eq_true.1 H.1.1 j (ready_mono hj hji)
   rw [hjn] at h5
   cases h5
 | succ f ih =>
  intro listed a hm hcl hfree hr hy H
  have hun := (mem_ready.1 hr).1
  refine ⟨fun h => (by rw [h] at hr; cases hr), fun j hj => ?_⟩
  have hjm : j ≠ m := fun e => by
   have h5 := (mem_ready.1 hj).1
   rw [e, hm] at h5; cases h5
  have hjn : hs.contains j = true := by
   cases hc : hs.contains j with
   | true => rfl
   | false => exact absurd hj (xGr hd hcl hjm hc hin hun)
  refine ⟨hjn, ?_⟩
  by_cases hji : j = i
  ·subst hji; exact hy.qOp hi H
  ·have h1 := (H.2 j (ready_mono hj hji)).2
   obtain ⟨hjun, oj, hoj, hall⟩ := mem_ready.1 hj
   have hnot : ∀ e ∈ oj.after, Region.binds md e = true → e.on ≠ i := fun e he hb heq => by
    have h3 := hall e he hb
    rw [heq, getD_both hun] at h3
    cases h3
   have h2 := qOp_put hoj (hfree j oj hoj hji hjun hnot) (fun cs b => hsel i oi cs b hi) (fun cs b => hsel j oj cs b hoj) hy h1
   refine qOp_mono (fun a' h3 => ih (listed.setIfInBounds j true) a' (xDv hm) (hcl.set hj) (fun k ok hk hki hku hno => hfree k ok hk hki ?_ hno) (ready_mono hr (Ne.symm hji)) h3.1 ?_) h2
   ·by_cases hjk : j = k
    ·subst hjk; exact hjun
    ·rwa [getD_set_ne true hjk] at hku
   ·rw [Array.setIfInBounds_comm _ _ hji]
    exact h3.2
def headA (md : Region.Mode) (ops : Array Oper) (hs : List Nat) (E : Array Bool → Bool) : List Nat → Array Bool → Bool
 | [], listed => overB md ops hs listed && E listed
 | k :: ks, listed => (ops[k]?).isSome && hs.contains k && (Region.ready md ops listed).contains k && Region.free md ops listed k && headA md ops hs E ks (listed.setIfInBounds k true)
theorem hdA_lex {hs ps : List Nat} {E : Array Bool → Bool} {L : Act → Prop} {m : Nat} (hsel : Region.noSelect ops = true) (hd : dirA md ops hs ps m = true) : ∀ (ks : List Nat) (listed : Array Bool) (a : Act), listed.getD m true = true → Cl md ops listed →
  headA md ops hs E ks listed = true → wpQuiet P ops C L (xAn ops ks) a → hdR P md ops C hs E L ks.length listed a
 | [], listed, a, _, _, hB, h => ⟨by simpa [headA] using hB, h⟩
 | k :: ks, listed, a, hm, hcl, hB, h => by
  simp only [headA, Bool.and_eq_true] at hB
  obtain ⟨⟨⟨⟨hsm, hk⟩, hr⟩, hf⟩, hB'⟩ := hB
  obtain ⟨o, h0⟩ := Option.isSome_iff_exists.1 hsm
  rw [xCd h0] at h
  have hr' : k ∈ Region.ready md ops listed := by simpa using hr
  have hst : qOp P ops C k (wpQuiet P ops C L (xAn ops ks)) a := by unfold qOp; simp only [h0]; exact h
  obtain ⟨v, hy, hK⟩ := yieldsIn_of_qOp h0 hst
  exact hdA_first h0 (Region.noSelect_spec hsel) hd (by simpa using hk) ks.length listed a hm hcl (Region.free_spec h0 hf) hr' hy (hdA_lex hsel hd ks _ _ (xDv hm) (hcl.set hr') hB' hK)
theorem hdQ_put {hs : List Nat} {E : Array Bool → Bool} {L : Act → Prop} {dm : Option Tmp} {u : Value} (hsel : ∀ (j : Nat) (o : Oper) cs b, ops[j]? = some o → o.op ≠ .select cs b)
  (hap : ∀ j oj, hs.contains j = true → ops[j]? = some oj → (∀ d, dm = some d → d ∉ oj.looksAt ops) ∧ ∀ d, dm = some d → oj.dst ≠ some d) :
  ∀ (f : Nat) (listed : Array Bool) (a : Act), hdR P md ops C hs E L f listed a → hdR P md ops C hs E (fun a' => ∃ a'', L a'' ∧ a' = a''.put dm u) f listed (a.put dm u)
 | 0, listed, a, h => ⟨h.1, a, h.2, rfl⟩
 | f + 1, listed, a, h => by
  refine ⟨h.1, fun j hj => ⟨(h.2 j hj).1, ?_⟩⟩
  obtain ⟨hc, hq⟩ := h.2 j hj
  obtain ⟨_, oj, hoj, _⟩ := mem_ready.1 hj
  obtain ⟨v, hy, hK⟩ := yieldsIn_of_qOp hoj hq
  obtain ⟨a1, a2⟩ := hap j oj hc hoj
  have hy' : YieldsIn P ops C oj v (a.put dm u) := hy.of_same (execOp_put oj (fun cs b => hsel j oj cs b hoj) a dm u a1) (wanted_put oj a dm u a1)
  refine hy'.qOp hoj ?_
  rw [Act.put_comm a u v a2]
  exact hdQ_put hsel hap f _ _ hK
theorem xH3 {hs : List Nat} {E : Array Bool → Bool} {af : Act} {d : Nat} : ∀ (f : Nat) (listed : Array Bool) (b : Act), (∀ j oj, hs.contains j = true → listed.getD j true = false → ops[j]? = some oj → oj.dst ≠ some d) →
  hdR P md ops C hs E (fun a' => a' = af) f listed b → af.tmps.getD d undef = b.tmps.getD d undef
 | 0, listed, b, _, h => by rw [show b = af from h.2]
 | f + 1, listed, b, hn, h => by
  obtain ⟨j, hj⟩ := List.exists_mem_of_ne_nil _ h.1
  obtain ⟨hc, hq⟩ := h.2 j hj
  obtain ⟨hju, oj, hoj, _⟩ := mem_ready.1 hj
  obtain ⟨v, _, hK⟩ := yieldsIn_of_qOp hoj hq
  have hdj := hn j oj hc hju hoj
  rw [xH3 f _ _ (fun k ok hk hku hok => hn k ok hk (by
   by_cases hjk : j = k
   ·subst hjk; exact hju
   ·rwa [getD_set_ne true hjk] at hku) hok) hK]
  unfold Act.put
  cases hds : oj.dst with
  | none => rfl
  | some e =>
   have : e ≠ d := fun he => hdj (by rw [hds, he])
   simp [Array.getElem?_setIfInBounds_ne this]
def onceB (ops : Array Oper) (hs : List Nat) : Bool := hs.all fun i => hs.all fun j => i == j || match ops[i]?, ops[j]? with
 | some oi, some oj => oi.dst.isNone || oi.dst != oj.dst
 | _, _ => true
theorem onceB_spec {hs : List Nat} (h : onceB ops hs = true) {i j : Nat} {oi oj : Oper} {d : Nat} (hi : i ∈ hs) (hj : j ∈ hs) (hij : i ≠ j) (hoi : ops[i]? = some oi) (hoj : ops[j]? = some oj) (hd : oi.dst = some d) : oj.dst ≠ some d := by
 have h1 := List.all_eq_true.1 (List.all_eq_true.1 h i hi) j hj
 simp only [hoi, hoj, hd, Option.isNone_some, Bool.false_or, Bool.or_eq_true, beq_iff_eq, hij, false_or, bne_iff_ne, ne_eq] at h1
 exact fun e => h1 e.symm
def psB (md : Region.Mode) (ops : Array Oper) (m : Nat) (ts : List Nat) : List Nat → Array Bool → Bool
 | [], listed => decide (Region.ready md ops listed = [m]) && tlB md ops ts (listed.setIfInBounds m true)
 | k :: ks, listed => (ops[k]?).isSome && pureAt ops k && (Region.ready md ops listed).contains k && Region.free md ops listed k && psB md ops m ts ks (listed.setIfInBounds k true)
theorem xE8 {ts : List Nat} {m dm : Nat} {T : TypeId} {zs : Array Value} {oa : Oper} {w0 : World} {Q : Exit → Act → World → Prop} (hsel : Region.noSelect ops = true) (hQ : xCs Q)
  (hoa : ops[m]? = some oa) (hdst : oa.dst = some dm) (hg : oa.guard = none) (hrun : ∀ (a : Act) (W : World), (execOp a.eval oa).run P W = .ok (.value (.pointer (some ⟨W.heap.size, 0, none⟩))) (W.alloc (.cells zs T))) :
  ∀ (ps : List Nat) (listed : Array Bool) (a : Act) (w : World), (∀ j oj, j ∈ ps → ops[j]? = some oj → (∀ d, oa.dst = some d → d ∉ oj.looksAt ops) ∧ ∀ d, oa.dst = some d → oj.dst ≠ some d) →
   Below w0.heap.size w0 w → psB md ops m ts ps listed = true →
   (∀ (la : Nat) (W : World), w0.heap.size ≤ la → Below w0.heap.size w0 W → Blk W la T zs → wpList P ops Q (xAn ops (ps ++ ts)) (a.put oa.dst (.pointer (some ⟨la, 0, none⟩))) W) →
   wpAny P md ops Q (ps.length + 1 + ts.length) listed a w
 | [], listed, a, w, _, hw, hB, hK => by
  simp only [psB, Bool.and_eq_true, decide_eq_true_eq] at hB
  obtain ⟨hr, hB⟩ := hB
  rw [show ([] : List Nat).length + 1 + ts.length = ts.length + 1 by simp; omega]
  refine ⟨fun h => (by rw [hr] at h; cases h), fun i hi => ?_⟩
  rw [hr] at hi
  obtain rfl : i = m := by simpa using hi
  unfold wpOp
  simp only [hoa, Region.wanted, hg, if_true]
  refine .inl ?_
  unfold Oper.wp
  rw [hrun]
  exact xBu hsel hQ ts _ _ _ hB (hK _ _ hw.size (xAc hw _) (Blk.new w T zs))
 | k :: ks, listed, a, w, hap, hw, hB, hK => by
  simp only [psB, Bool.and_eq_true] at hB
  obtain ⟨⟨⟨⟨hsm, hp⟩, hr⟩, hf⟩, hB'⟩ := hB
  obtain ⟨o, h0⟩ := Option.isSome_iff_exists.1 hsm
  obtain ⟨a1, a2⟩ := hap k o (by simp) h0
  unfold pureAt at hp
  simp only [h0, Bool.and_eq_true] at hp
  obtain ⟨hgk, hp⟩ := hp
  have hgk' : o.guard = none := by simpa using hgk
  have hs := Region.noSelect_spec hsel
  have hwd : ∀ a : Act, Region.wanted o (yielded ops a.tmps) = true := fun a => by simp [Region.wanted, hgk']
  have hex : ∀ u, execOp (a.put oa.dst u).eval o = execOp a.eval o := fun u => execOp_put o (fun cs b => hs k o cs b h0) a oa.dst u a1
  rcases xFn (ρ := a.eval) hp with ⟨v, hv⟩ | ⟨x, hx⟩
  ·have hy : Yields P ops o v a := .inl ⟨hwd a, fun w' => by rw [hv]; rfl⟩
   have h3 : ∀ (la : Nat) (W : World), w0.heap.size ≤ la → Below w0.heap.size w0 W → Blk W la T zs → wpList P ops Q (xAn ops (ks ++ ts)) ((a.put o.dst v).put oa.dst (.pointer (some ⟨la, 0, none⟩))) W := by
    intro la W h1 h2 h4
    have h := hK la W h1 h2 h4
    rw [qzE, xCd h0] at h
    unfold wpList at h
    rw [if_pos (hwd _)] at h
    rcases h with h | h
    ·unfold Oper.wp at h; rw [hex, hv] at h
     rw [← Act.put_comm a (.pointer (some ⟨la, 0, none⟩)) v a2]; exact h
    ·obtain ⟨⟨hm, _⟩, _⟩ := h
     rw [hex, hv] at hm
     simp [Sem.runT] at hm
   rw [show (k :: ks).length + 1 + ts.length = (ks.length + 1 + ts.length) + 1 by simp; omega]
   exact wpAny_first h0 hs (fun c a' w' hq => hQ c _ _ w' (by cases o.dst <;> rfl) hq) (ks.length + 1 + ts.length) listed a w (Region.free_spec h0 hf) (by simpa using hr) hy
    (xE8 hsel hQ hoa hdst hg hrun ks _ _ w (fun j oj hj => hap j oj (by simp [hj])) hw hB' h3)
  ·exfalso
   have h := hK _ _ hw.size (xAc hw _) (Blk.new w T zs)
   rw [qzE, xCd h0] at h
   unfold wpList at h
   rw [if_pos (hwd _)] at h
   rcases h with h | h
   ·unfold Oper.wp at h; rw [hex, hx] at h; exact h
   ·obtain ⟨⟨hm, _⟩, _⟩ := h
    rw [hex, hx] at hm
    simp [Sem.runT] at hm
def endB (md : Region.Mode) (ops : Array Oper) (ps ts : List Nat) (m : Nat) (listed : Array Bool) : Bool := tlB md ops (ps ++ ts) listed && psB md ops m ts ps (listed.setIfInBounds m false)
theorem set_back {listed : Array Bool} {m : Nat} (h : listed.getD m true = false) : (listed.setIfInBounds m true).setIfInBounds m false = listed := by
 apply Array.ext_getElem?
 intro i
 by_cases hi : m = i
 ·subst hi
  rcases Nat.lt_or_ge m listed.size with hlt | hge
  ·simp [hlt] at h ⊢; exact h
  ·simp [Array.getElem?_eq_none hge] at h
 ·simp [Array.getElem?_setIfInBounds_ne hi]
theorem xId {hs ps ts : List Nat} {m dm : Nat} {T : TypeId} {zs : Array Value} {oa : Oper} {w0 : World} {af : Act} {Q : Exit → Act → World → Prop} (hsel : Region.noSelect ops = true) (hQ : xCs Q) (hd : dirA md ops hs ps m = true) (hone : onceB ops hs = true)
  (hoa : ops[m]? = some oa) (hdst : oa.dst = some dm) (hg : oa.guard = none) (hafter : oa.after = #[]) (hrun : ∀ (a : Act) (W : World), (execOp a.eval oa).run P W = .ok (.value (.pointer (some ⟨W.heap.size, 0, none⟩))) (W.alloc (.cells zs T)))
  (hap : ∀ j oj, (hs ++ ps).contains j = true → ops[j]? = some oj → (∀ d, oa.dst = some d → d ∉ oj.looksAt ops) ∧ ∀ d, oa.dst = some d → oj.dst ≠ some d)
  (hK : ∀ (la : Nat) (W : World), w0.heap.size ≤ la → Below w0.heap.size w0 W → Blk W la T zs → wpList P ops Q (xAn ops (ps ++ ts)) (af.put oa.dst (.pointer (some ⟨la, 0, none⟩))) W) :
  ∀ (f : Nat) (listed : Array Bool) (a : Act) (w : World), listed.getD m true = false → Cl md ops listed → Below w0.heap.size w0 w →
   (∀ (S : Type) (g : S → World), Good w0 S g → hdR P md ops (cls g) hs (endB md ops ps ts m) (fun a' => a' = af) f (listed.setIfInBounds m true) a) → wpAny P md ops Q (f + (ps.length + 1 + ts.length)) listed a w := by
 have hS := Region.noSelect_spec hsel
 intro f
 induction f with
 | zero =>
  intro listed a w hm hcl hw H
  have hG : Good w0 {x : World // Below w0.heap.size w0 x} (fun x => x.1) := ⟨fun s => s.2, fun s x hx => ⟨⟨x, xAa s.2 hx⟩, rfl⟩, ⟨⟨w, hw⟩⟩⟩
  have h1 := H _ _ hG
  have h2 := h1.1.2
  simp only [endB, Bool.and_eq_true, set_back hm] at h2
  rw [Nat.zero_add]
  have h3 : a = af := h1.2
  subst h3
  exact xE8 hsel hQ hoa hdst hg hrun ps listed a w (fun j oj hj hoj => hap j oj (by simp [hj]) hoj) hw h2.2 hK
 | succ f ih =>
  intro listed a w hm hcl hw H
  rw [show f + 1 + (ps.length + 1 + ts.length) = (f + (ps.length + 1 + ts.length)) + 1 by omega]
  have hmr : m ∈ Region.ready md ops listed := mem_ready.2 ⟨hm, oa, hoa, by rw [hafter]; simp⟩
  have hG0 : Good w0 {x : World // Below w0.heap.size w0 x} (fun x => x.1) := ⟨fun s => s.2, fun s x hx => ⟨⟨x, xAa s.2 hx⟩, rfl⟩, ⟨⟨w, hw⟩⟩⟩
  refine ⟨fun h => (by rw [h] at hmr; cases hmr), fun i hi => ?_⟩
  by_cases him : i = m
  ·subst him
   unfold wpOp
   simp only [hoa, Region.wanted, hg, if_true]
   refine .inl ?_
   unfold Oper.wp
   rw [hrun]
   have hG : Good w0 {x : World // Below w0.heap.size w0 x ∧ Below (w.alloc (.cells zs T)).heap.size (w.alloc (.cells zs T)) x} (fun x => x.1) := ⟨fun s => s.2.1, fun s x hx => ⟨⟨x, xAa s.2.1 hx, xAa s.2.2 hx⟩, rfl⟩, ⟨⟨w.alloc (.cells zs T), xAc hw _, Below.refl _ _⟩⟩⟩
   have h1 := hdQ_put (u := .pointer (some ⟨w.heap.size, 0, none⟩)) hS (fun j oj hj => hap j oj (by simp at hj ⊢; exact .inl hj)) (f + 1) _ _ (H _ _ hG)
   have h2 := xEv (g := (ps ++ ts).length) (Q' := Q) (fun listed a' W hC ht hL => xBu hsel hQ (ps ++ ts) listed a' W (by simp only [endB, Bool.and_eq_true] at ht; exact ht.1) (by
    obtain ⟨s, rfl⟩ := hC
    obtain ⟨a'', rfl, rfl⟩ := hL
    exact hK _ _ hw.size s.2.1 ((Blk.new w T zs).then_ s.2.2))) (f + 1) _ _ _ ⟨⟨w.alloc (.cells zs T), xAc hw _, Below.refl _ _⟩, rfl⟩ h1
   rw [show f + (ps.length + 1 + ts.length) = f + 1 + (ps ++ ts).length by simp; omega]
   exact h2
  ·have hin : hs.contains i = true := by
    cases hc : hs.contains i with
    | true => rfl
    | false =>
     obtain ⟨j, hj⟩ := List.exists_mem_of_ne_nil _ (H _ _ hG0).1
     have hjh := ((H _ _ hG0).2 j hj).1
     have hju := (mem_ready.1 hj).1
     have hjm : m ≠ j := fun e => by
      subst e
      rcases Nat.lt_or_ge m listed.size with hlt | hge
      ·simp [hlt] at hju
      ·simp [Array.getElem?_eq_none hge] at hm
     exact absurd hi (xGr hd hcl him hc (by simpa using hjh) (by rwa [getD_set_ne true hjm] at hju))
   obtain ⟨hiu, oi, hoi, _⟩ := mem_ready.1 hi
   have key : ∀ (S : Type) (g : S → World), Good w0 S g → ∃ v, YieldsIn P ops (cls g) oi v a ∧ a.put oi.dst v = a.put oi.dst ((oi.dst.map fun d => af.tmps.getD d undef).getD undef) ∧ hdR P md ops (cls g) hs (endB md ops ps ts m) (fun a' => a' = af) f ((listed.setIfInBounds m true).setIfInBounds i true) (a.put oi.dst v) := by
    intro S g hG
    have hq := ((H S g hG).2 i (ready_mono hi him)).2
    obtain ⟨v, hy, hK'⟩ := yieldsIn_of_qOp hoi hq
    refine ⟨v, hy, ?_, hK'⟩
    cases hds : oi.dst with
    | none => rfl
    | some d =>
     have hk := xH3 (d := d) f _ _ (fun j oj hj hju hoj => ?_) hK'
     ·rw [hds] at hk
      simp only [Option.map_some, Option.getD_some, hk, Act.put]
      congr 1
      rcases Nat.lt_or_ge d a.tmps.size with hlt | hge
      ·congr 1; simp [hlt]
      ·rw [Array.setIfInBounds_eq_of_size_le hge, Array.setIfInBounds_eq_of_size_le hge]
     ·by_cases hij : i = j
      ·subst hij
       exfalso
       rcases Nat.lt_or_ge i (listed.setIfInBounds m true).size with hlt | hge
       ·have : ((listed.setIfInBounds m true).setIfInBounds i true).getD i true = true := by simp at hlt ⊢; try simp [hlt]
        rw [this] at hju; cases hju
       ·rw [Array.setIfInBounds_eq_of_size_le hge] at hju
        simp [Array.getElem?_eq_none hge] at hju
      ·exact onceB_spec hone (by simpa using hin) (by simpa using hj) hij hoi hoj hds
   obtain ⟨v, hy, hv, _⟩ := key _ _ hG0
   refine wpOp_of_qOp (C := cls (fun x : {x : World // Below w0.heap.size w0 x} => x.1)) ⟨⟨w, hw⟩, rfl⟩ (fun a' w' hC' hK' => ?_) (hy.qOp hoi (K := fun a' => a' = a.put oi.dst v) rfl)
   obtain ⟨s, rfl⟩ := hC'
   subst hK'
   refine ih (listed.setIfInBounds i true) _ _ (by rw [getD_set_ne true him]; exact hm) (hcl.set hi) s.2 (fun S g hG' => ?_)
   obtain ⟨v', hy', hv', hK''⟩ := key S g hG'
   rw [hv, ← hv', Array.setIfInBounds_comm _ _ him]
   exact hK''
def tailA (ops : Array Oper) (hs ps ts : List Nat) (m dm : Nat) : Bool :=
 Region.noSelect ops && decide (hs.length + (ps.length + 1 + ts.length) = ops.size) && dirA .any ops hs ps m && onceB ops hs && headA .any ops hs (endB .any ops ps ts m) hs ((Array.replicate ops.size false).setIfInBounds m true)
  && (match ops[m]? with | some oa => decide (oa.dst = some dm) && oa.guard.isNone && oa.after.isEmpty && (hs ++ ps).all (fun j => match ops[j]? with | some oj => oa.apart ops oj | none => true) | none => false)
end
theorem xDh {P : Program} {id : Nat} {Q : Exit → Act → World → Prop} {a : Act} {w : World} {l : List Oper} {T : TypeId} {zs : Array Value} (hs ps ts : List Nat) (m dm : Nat) (hm : P.follows .mixedOrders = true) (hB : tailA l.toArray hs ps ts m dm = true) (hQ : xCs Q)
  (hrun : ∀ (a : Act) (W : World), (execOp a.eval ((l[m]?).getD default)).run P W = .ok (.value (.pointer (some ⟨W.heap.size, 0, none⟩))) (W.alloc (.cells zs T)))
  (h : ∃ af : Act, (∀ (S : Type) (g : S → World), Good w S g → wpQuiet P l.toArray (cls g) (fun a' => a' = af) (xAn l.toArray hs) a) ∧
   ∀ (la : Nat) (W : World), w.heap.size ≤ la → Below w.heap.size w W → Blk W la T zs → wpList P l.toArray Q (xAn l.toArray (ps ++ ts)) (af.put (some dm) (.pointer (some ⟨la, 0, none⟩))) W) :
  (Code.region id l.toArray true).wp P Q a w := by
 obtain ⟨af, hH, hK⟩ := h
 simp only [tailA, Bool.and_eq_true, decide_eq_true_eq] at hB
 obtain ⟨⟨⟨⟨⟨hsel, hn⟩, hd⟩, hone⟩, hlex⟩, hmm⟩ := hB
 cases hoa : l.toArray[m]? with
 | none => rw [hoa] at hmm; cases hmm
 | some oa =>
  rw [hoa] at hmm
  simp only [Bool.and_eq_true, decide_eq_true_eq] at hmm
  obtain ⟨⟨⟨hdst, hg⟩, hafter⟩, hap⟩ := hmm
  have hg' : oa.guard = none := by simpa using hg
  have ha' : oa.after = #[] := by simpa using hafter
  have hl : l[m]? = some oa := by simpa using hoa
  rw [hl] at hrun
  have hml : m < l.toArray.size := (Array.getElem?_eq_some_iff.1 hoa).1
  refine wp_region_any hm ?_
  have h1 := xId (md := .any) (w0 := w) (Q := Q) hsel hQ hd hone hoa hdst hg' ha' hrun
   (fun j oj hj hoj => by
    have h2 := List.all_eq_true.1 hap j (by simpa using hj)
    rw [hoj] at h2
    have h3 := Oper.apart_spec h2
    exact ⟨h3.1, h3.2.1⟩) (by rw [hdst]; exact hK) hs.length (Array.replicate l.toArray.size false) a { w with drawn := w.drawn + 1 }
   (by simp at hml ⊢; try simp [hml]) (fun j oj _ hl => by rw [getD_replicate_false] at hl; cases hl) ⟨rfl, rfl, rfl, Nat.le_refl _, fun _ _ => rfl⟩
   (fun S g hG => hdA_lex hsel hd hs _ a (by
    simp at hml ⊢; try simp [hml]) (fun j oj hoj hl e he hb => by
     by_cases hjm : m = j
     ·subst hjm
      rw [hoa] at hoj; cases hoj
      rw [ha'] at he; simp at he
     ·rw [getD_set_ne false hjm, getD_replicate_false] at hl; cases hl) hlex (hH S g hG))
  rwa [hn] at h1
theorem xA3 {w : World} {S : Type} {g : S → World} (hG : Good w S g) {a : Addr} {v : Value} (h : w.cell? a = some v) (s : S) : (g s).cell? a = some v := by
 rw [(hG.1 s).cell (block_lt_of_cell h)]; exact h
theorem qa_call {P : Program} {f : FuncId} {args : Array Value} {w : World} {v : Value} {S : Type} {g : S → World} (hG : Good w S g) (h : ∀ W, Below w.heap.size w W → Calls P f args W fun e w' => e = .returned v ∧ Below W.heap.size W w') (s : S) :
  Calls P f args (g s) fun e w'' => e = .returned v ∧ ∃ s', w'' = g s' := (h _ (hG.1 s)).mono fun _ _ ⟨he, hb⟩ => ⟨he, hG.2.1 s _ hb⟩
end Go.Proofs.YtffceokjeonpcaaGreatDoor
