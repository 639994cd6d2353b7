/- Contracts of functions and plain laws, joined: So, Wh1, Wt3, VbD. -/
import Derived.Test.YtginnonjdbpamaaGreatDoorMc19
import Derived.Test.YtginnonjdbpamaaGreatDoorMc20
import Derived.Test.YtginnonjdbpamaaGreatDoorMc11
import Derived.Lib.QuietBelow
import Derived.Laws.Concat
import Derived.Laws.RangeAny
import Derived.Test.YtginnonjdbpamaaGreatDoorMc2
import Derived.Lib.Strings
/- The walk of validate.Run. -/
import Derived.Test.YtginnonjdbpamaaGreatDoorMc1
set_option maxHeartbeats 6400000
set_option maxRecDepth 100000
namespace Go.Proofs.YtginnonjdbpamaaGreatDoor
open Go.RowKit Go.Sort
def runE (c : Con) : Sta → List Int → Int
 | _, [] => 0
 | s, x :: l => if s.stepE c x = 0 then runE c (s.step c x) l else s.stepE c x
def xB0 (c : Con) : Sta → List Int → List Sta
 | s, [] => [s]
 | s, x :: l => s :: xB0 c (s.step c x) l
def Con.runE (c : Con) (l : List Int) : Int := if c.startE ≠ 0 then c.startE else if 4000 < l.length then 3 else YtginnonjdbpamaaGreatDoor.runE c c.first l
def Con.runS (c : Con) (l : List Int) : List Sta := if c.runE l = 0 then xB0 c c.first l else []
def eQ (x : Sta × Qm) : List Value := [.int .i64 x.1.day, .slice x.2.h x.1.hol.length x.2.hc, .slice x.2.u x.1.used.length x.2.uc, .slice x.2.m x.1.marks.length x.2.mc]
theorem xC6 (x : Sta × Qm) : (eQ x).length = 4 := rfl
theorem one_sta (y : Sta × Qm) : ∀ u ∈ eQ y, u.oneCell' = true := by
 intro u hu
 simp only [eQ, List.mem_cons, List.not_mem_nil, or_false] at hu
 rcases hu with rfl | rfl | rfl | rfl <;> rfl
theorem xFb (c : Con) : ∀ (l : List Int) (s : Sta), (xB0 c s l).length = l.length + 1
 | [], _ => rfl
 | x :: l, s => by rw [xB0, List.length_cons, xFb c l, List.length_cons]
structure Stq (B : Nat) (w : World) (s : Sta) (q : Qm) : Prop where
 m : Stm w s q
 o : SOff (B ≤ ·) q
 t : STy w q
theorem SOff.more {B B' : Nat} {q : Qm} (h : SOff (B ≤ ·) q) (hB : B' ≤ B) : SOff (B' ≤ ·) q := ⟨fun a e => Nat.le_trans hB (h.h a e), fun a e => Nat.le_trans hB (h.u a e), fun a e => Nat.le_trans hB (h.m a e)⟩
theorem STy.then_ {w w' : World} {q : Qm} (h : STy w q) (hb : Below w.heap.size w w') : STy w' q :=
 ⟨fun a e => (h.h a e).imp fun _ h => h.then_ hb, fun a e => (h.u a e).imp fun _ h => h.then_ hb, fun a e => (h.m a e).imp fun _ h => h.then_ hb⟩
theorem Stq.then_ {B : Nat} {w w' : World} {s : Sta} {q : Qm} (h : Stq B w s q) (hb : Below w.heap.size w w') : Stq B w' s q := ⟨h.m.then_ hb, h.o, h.t.then_ hb⟩
theorem Blk.ne_of {w : World} {g g' : Nat} {t t' : TypeId} {cs cs' : Array Value} (h : Blk w g t cs) (h' : Blk w g' t' cs') (ht : t ≠ t') : g ≠ g' := by
 rintro rfl
 have h2 := h.symm.trans h'
 injection h2 with h2
 injection h2 with _ h3 _
 exact ht h3
theorem xGr {α : Type} {w w' : World} {size : Nat} {enc : α → List Value} {A : Option Addr} {xs : List α} (h : Seg w w.heap.size size enc A xs) (hs : w.heap.size ≤ w'.heap.size) (hk : ∀ a, A = some a → w'.heap[a.block]? = w.heap[a.block]?) : Seg w' w'.heap.size size enc A xs := fun k x hx => by
 obtain ⟨b, off, e, hb, hc⟩ := h k x hx
 exact ⟨b, off, e, by omega, fun j v hv => (World.cell?_of_block (w := w) (w' := w') (a := ⟨b, off + k * size + j, none⟩) (show w'.heap[b]? = w.heap[b]? from hk _ e)).trans (hc j v hv)⟩
theorem Stq.keep {B : Nat} {w w' : World} {s : Sta} {q : Qm} (h : Stq B w s q) (hs : w.heap.size ≤ w'.heap.size) {p : Nat → Prop} (hp : ∀ x, p x → w'.heap[x]? = w.heap[x]?) (hq : ∀ x (t : TypeId) cs, Blk w x t cs → (t = 3 ∨ t = 4 ∨ t = 46) → p x) : Stq B w' s q := by
 have kh : ∀ a, q.h = some a → w'.heap[a.block]? = w.heap[a.block]? := fun a e => by obtain ⟨cs, hb⟩ := h.t.h a e; exact hp _ (hq _ _ _ hb (.inl rfl))
 have ku : ∀ a, q.u = some a → w'.heap[a.block]? = w.heap[a.block]? := fun a e => by obtain ⟨cs, hb⟩ := h.t.u a e; exact hp _ (hq _ _ _ hb (.inr (.inl rfl)))
 have km : ∀ a, q.m = some a → w'.heap[a.block]? = w.heap[a.block]? := fun a e => by obtain ⟨cs, hb⟩ := h.t.m a e; exact hp _ (hq _ _ _ hb (.inr (.inr rfl)))
 exact ⟨⟨xGr h.m.h hs kh, xGr h.m.u hs ku, xGr h.m.m hs km, h.m.nh, h.m.nu, h.m.nm, h.m.ch, h.m.cu, h.m.cm⟩, h.o,
  ⟨fun a e => (h.t.h a e).imp fun _ hb => (kh a e).trans hb, fun a e => (h.t.u a e).imp fun _ hb => (ku a e).trans hb, fun a e => (h.t.m a e).imp fun _ hb => (km a e).trans hb⟩⟩
theorem Stq.updT {B g : Nat} {w w' : World} {s : Sta} {q : Qm} {t : TypeId} {cs : Array Value} (h : Stq B w s q) (u : Upd w w' g) (hb : Blk w g t cs) (ht : t ≠ 3 ∧ t ≠ 4 ∧ t ≠ 46) : Stq B w' s q :=
 h.keep (by rw [u.s]; exact Nat.le_refl _) u.f fun x t' cs' hb' e => Blk.ne_of hb' hb (by rcases e with rfl | rfl | rfl <;> first | exact ht.1.symm | exact ht.2.1.symm | exact ht.2.2.symm)
theorem Stq.grown {B B' size : Nat} {w w' : World} {s : Sta} {q : Qm} {α : Type} {enc : α → List Value} {v : Value} {xs : List α} {T : TypeId} (h : Stq B w s q) (hO : Own w B' T size enc v xs) (hg : w.grownBy w' v.ownBlock) (ht : T ≠ 3 ∧ T ≠ 4 ∧ T ≠ 46) : Stq B w' s q :=
 h.keep (p := fun x => x < w.heap.size ∧ some x ≠ v.ownBlock) hg.size (fun x hx => hg.block x hx.1 hx.2) fun x t' cs' hb' e => ⟨hb'.lt, fun e' => by
  rcases hO.2 with ⟨e2, _⟩ | ⟨g', cap', cur', e2, _, hh', _⟩
  ·rw [e2] at e'; cases e'
  ·rw [e2] at e'
   obtain rfl : x = g' := Option.some.inj e'
   exact Blk.ne_of hb' (show Blk w x T cur' from hh') (by rcases e with rfl | rfl | rfl <;> first | exact ht.1.symm | exact ht.2.1.symm | exact ht.2.2.symm) rfl⟩
structure Rws (B : Nat) (w : World) (v : Value) (rows : List (Sta × Qm)) : Prop where
 o : Own w B 43 4 eQ v rows
 r : ∀ x ∈ rows, Stq B w x.1 x.2
theorem Rws.then_ {B : Nat} {w w' : World} {v : Value} {rows : List (Sta × Qm)} (h : Rws B w v rows) (hb : Below w.heap.size w w') : Rws B w' v rows := ⟨h.o.below hb, fun x hx => (h.r x hx).then_ hb⟩
def RetL (w : World) (L : List Sta) (E : Int) (e : Ending) (w' : World) : Prop :=
 (∃ v rows, e = .returned (.tuple #[v, .int .i64 E]) ∧ rows.map (·.1) = L ∧ Rws w.heap.size w' v rows ∧ rows.length ≤ 1000000) ∧ Below w.heap.size w w'
theorem RetL.none {w w' : World} {E : Int} (h : Below w.heap.size w w') : RetL w [] E (.returned (.tuple #[.slice none 0 0, .int .i64 E])) w' :=
 ⟨⟨_, [], rfl, rfl, ⟨Own.nil _ _ _ _ _, fun x hx => by cases hx⟩, by decide⟩, h⟩
structure RL (w W : World) (c : Con) (m : Cm) (l : List Int) (ba bs : Nat) (i : Nat) (v : Value) (rows : List (Sta × Qm)) (s : Sta) (q : Qm) : Prop where
 ga : Blk W ba 27 (coA c m)
 gs : Blk W bs 43 (stA s q)
 st : Stq w.heap.size W s q
 o : Own W (bs + 1) 43 4 eQ v rows
 r : ∀ x ∈ rows, Stq w.heap.size W x.1 x.2
 b : Below w.heap.size w W
 p : ∃ pre, rows.map (·.1) = pre ++ [s] ∧ pre ++ xB0 c s (l.drop i) = xB0 c c.first l
 e : runE c s (l.drop i) = runE c c.first l
 n : rows.length = i + 1
 lb : w.heap.size ≤ bs ∧ ba < bs
theorem RL.step {w W W1 we w2 : World} {c : Con} {m : Cm} {l : List Int} {ba bs i : Nat} {v v' : Value} {rows : List (Sta × Qm)} {s : Sta} {q q1 : Qm} {x : Int} {cs : Array Value} (h : RL w W c m l ba bs i v rows s q) (hx : l[i]? = some x) (hE : s.stepE c x = 0)
  (hb1 : Below W.heap.size W W1) (h1 : Stq W.heap.size W1 (s.step c x) q1) (ue : Upd W1 we bs) (ge : Blk we bs 43 (stA (s.step c x) q1))
  (hO : Own w2 (bs + 1) 43 4 eQ v' (rows ++ [(s.step c x, q1)])) (hb2 : Below (bs + 1) (we.alloc (.cells cs 43)) w2) (hg2 : (we.alloc (.cells cs 43)).grownBy w2 v.ownBlock) : RL w w2 c m l ba bs (i + 1) v' (rows ++ [(s.step c x, q1)]) (s.step c x) q1 := by
 have gs1 := h.gs.then_ hb1
 have lW := h.b.size
 have o1 : Own (we.alloc (.cells cs 43)) (bs + 1) 43 4 eQ v rows := ((h.o.below hb1).upd ue (h.o.ne_ (by omega))).alloc _
 have up : ∀ y r, Stq w.heap.size W1 y r → Stq w.heap.size w2 y r := fun y r k => ((k.updT ue gs1 (by decide)).then_ (wa1 _ _)).grown o1 hg2 (by decide)
 have hd : l.drop i = x :: l.drop (i + 1) := by
  obtain ⟨hi, e⟩ := qzM hx
  rw [List.drop_eq_getElem_cons hi, e]
 have hst := up _ _ ⟨h1.m, h1.o.more lW, h1.t⟩
 refine ⟨?_, ?_, hst, hO, ?_, ?_, ?_, ?_, by rw [List.length_append, h.n]; rfl, h.lb⟩
 ·exact (((h.ga.then_ hb1).upd ue (by have := h.lb; omega)).alloc _).below hb2 (by have := h.lb; omega)
 ·exact (ge.alloc _).below hb2 (by omega)
 ·intro y hy
  rcases List.mem_append.1 hy with hy | hy
  ·exact up _ _ ((h.r y hy).then_ hb1)
  ·rw [List.mem_singleton.1 hy]; exact hst
 ·refine ((xAa h.b hb1).trans (ue.b _ h.lb.1)).trans (Below.trans ((Below.refl _ _).alloc ?_ _) (hb2.mono (by have := h.lb; omega)))
  have := hb1.size
  have := ue.s
  omega
 ·obtain ⟨pre, e1, e2⟩ := h.p
  refine ⟨pre ++ [s], by rw [List.map_append, e1]; rfl, ?_⟩
  rw [← e2, hd, xB0, List.append_assoc]
  rfl
 ·rw [← h.e, hd, runE, if_pos hE]
theorem xIu (c : Con) (m : Cm) (l : List Int) (A : Option Addr) (cap : Nat) (w : World) (hC : Cont w c m) (hA : Seg w w.heap.size 1 eI A l) (nl : l.length ≤ 1000000) :
  Calls Tryz.prog 13 #[.agg (coA c m), .slice A l.length cap] w fun e w' => RetL w (c.runS l) (c.runE l) e w' := by
 obtain ⟨E, hE⟩ : ∃ E, c.runE l = E := ⟨_, rfl⟩
 obtain ⟨F, hF⟩ : ∃ F, c.runS l = F := ⟨_, rfl⟩
 rw [hE, hF]
 have HE : Hid (E = if c.startE ≠ 0 then c.startE else if 4000 < l.length then 3 else YtginnonjdbpamaaGreatDoor.runE c c.first l) := hE.symm
 have HF : Hid (F = if E = 0 then xB0 c c.first l else []) := by unfold Hid; rw [← hF, ← hE]; rfl
 have HC := qzL hC
 have HA := qzL hA
 obtain ⟨ri, hi1, hz10, hz11, hz12⟩ := info_parts (show (Tryz.prog.info? 43).map (fun i => (i.zero, i.size, i.bytes)) = some (some (.agg #[.int .i64 0, .slice none 0 0, .slice none 0 0, .slice none 0 0]), 4, 80) by kernel_rfl)
 have HST := qzL (fun W (hb : Below w.heap.size w W) => start0_any c m W (hC.then_ hb))
 have HSP := qzL (fun W s q x (hb : Below w.heap.size w W) (h : Stm W s q) => step_any c m s q x W (hC.then_ hb) h)
 clear hE hF hC hA
 go_enter Tryz.func13, Tryz.ntmps13
 go_upto_region 1 with (fail)
 refine xAf ?_
 intro X hX
 have ga : Blk X w.heap.size 27 (coA c m) := by rw [hX]; exact Blk.new _ _ _
 have HB : Below w.heap.size w X := by rw [hX]; (repeat (first | exact Below.refl _ _ | refine xAc ?_ _))
 obtain ⟨ba, eba⟩ : ∃ b, w.heap.size = b := ⟨_, rfl⟩
 have lba : Hid (w.heap.size ≤ ba) := by unfold Hid; omega
 rw [eba] at ga ⊢
 clear hX eba
 obtain ⟨SE, hSE⟩ : ∃ E, c.startE = E := ⟨_, rfl⟩
 obtain ⟨SS, hSS⟩ : ∃ E, c.startS = E := ⟨_, rfl⟩
 rw [hSE] at HE
 have HST' := HST.out
 rw [hSE, hSS] at HST'
 have HST := qzL HST'
 have HSE := qzL hSE
 have HSS := qzL hSS
 clear HST' hSE hSS
 go_upto_region 2 with (first | (refine xAi (by rfl) 27 _ rfl ba rfl 27 _ ga ⟨_, Tryz.underlying27⟩ (by kernel_rfl) ?_; simp only [Act.put, qzG, qzH, qzI]) | (go_at_call 24; (with_reducible refine (HST.out _ HB).mono ?_); rintro e w1 ⟨⟨q0, rfl, hs0, ho0, ht0⟩, hb1⟩) | (refine xAg rfl 43 _ _ rfl w1.heap.size 43 [] zS.toList [] (stA SS q0).toList rfl rfl (Blk.new _ _ _) rfl (by kernel_rfl) (by simp [Value.oneCell']) ?_; intro w2 g2 u2))
 obtain ⟨bs, ebs⟩ : ∃ b, w1.heap.size = b := ⟨_, rfl⟩
 have h12 : Below X.heap.size X w2 := (xAc hb1 _).trans (u2.b _ hb1.size)
 have lX := HB.size
 have lX1 := hb1.size
 have st2 : Stq w.heap.size w2 SS q0 := ((Stq.then_ (w' := w1.alloc (.cells zS 43)) ⟨hs0, ho0.more lX, ht0⟩ (wa1 _ _)).updT u2 (Blk.new _ _ _) (by decide))
 have ga2 := qzL (ga.then_ h12)
 have gs2 := qzL (show Blk w2 bs 43 (stA SS q0) by rw [← ebs]; exact g2)
 have HB2 := qzL (xAa HB h12)
 have ST2 := qzL st2
 have lbs : Hid (w.heap.size ≤ bs ∧ bs < w2.heap.size ∧ ba < bs) := ⟨by omega, gs2.out.lt, by have := ga.lt; omega⟩
 rw [ebs]
 clear HB ga hb1 hs0 ho0 ht0 g2 u2 h12 st2 lX lX1 ebs
 by_cases h1 : SE = 0
 case neg =>
  have t1 : (SE != 0) = true := by simpa using h1
  have H1 := qzL h1
  clear h1
  go_wp2
  refine bodyPost_ret (results_tmp2 rfl _ _ _) rfl ?_
  have e1 : E = SE := by rw [HE.out, if_pos H1.out]
  have e2 : F = [] := by rw [HF.out, e1, if_neg H1.out]
  rw [e1, e2]
  exact RetL.none HB2.out
 have t1 : (SE != 0) = false := by simpa using h1
 have H1 := qzL h1
 clear h1
 by_cases h2 : 4000 < l.length
 case pos =>
  have t2 : decide ((4000 : Int) < (l.length : Int)) = true := qzO (by omega)
  have H2 := qzL h2
  go_wp2
  refine bodyPost_ret (results_tmp2 rfl _ _ _) rfl ?_
  have e1 : E = 3 := by rw [HE.out, if_neg (by simp [H1.out]), if_pos h2]
  have e2 : F = [] := by rw [HF.out, e1]; rfl
  rw [e1, e2]
  exact RetL.none HB2.out
 have t2 : decide ((4000 : Int) < (l.length : Int)) = false := qzN (by omega)
 have HE2 : Hid (E = YtginnonjdbpamaaGreatDoor.runE c c.first l) := by unfold Hid; rw [HE.out, if_neg (by simp [H1.out]), if_neg h2]
 have ef : SS = c.first := by
  have a := HSE.out
  have b := HSS.out
  rw [H1.out] at a
  unfold Con.startE at a
  unfold Con.startS at b
  cases hok : c.ok with
  | true => rw [hok] at b; exact b.symm
  | false => rw [hok] at a; exact absurd a (by decide)
 subst ef
 clear HST HSE HSS HE
 have gsb := gs2.out
 go_upto_region 7 with (first | (refine xAi (by rfl) 43 _ rfl bs rfl 43 _ gsb ⟨_, Tryz.underlying43⟩ (by kernel_rfl) ?_; simp only [Act.put, qzG, qzH, qzI]))
 clear gsb
 refine xAf ?_
 intro X2 hX2
 have h0 : Hid (RL w X2 c m l ba bs 0 (.slice (some ⟨w2.heap.size, 0, none⟩) 1 1) [(c.first, q0)] c.first q0) := by
  have hb : Below w2.heap.size w2 X2 := by rw [hX2]; exact wa1 _ _
  refine ⟨ga2.out.then_ hb, gs2.out.then_ hb, ST2.out.then_ hb, ?_, ?_, xAa HB2.out hb, ⟨[], rfl, rfl⟩, rfl, rfl, by have := lbs.out; omega⟩
  ·refine ⟨rfl, .inr ⟨w2.heap.size, 1, (eQ (c.first, q0)).toArray, rfl, by have := lbs.out; omega, by rw [hX2]; exact Blk.new _ _ _, Nat.le_refl _, by unfold maxLen; omega, rfl, rfl⟩⟩
  ·intro x hx
   rw [List.mem_singleton.1 hx]
   exact ST2.out.then_ hb
 clear hX2 ga2 gs2 HB2 ST2 t1 t2
 go_upto_region 8 with (fail)
 go_loopw [8, 26] (fun v y WR => ∃ (i : Nat) (rows : List (Sta × Qm)) (s : Sta) (q : Qm), y = .int .i64 i ∧ i ≤ l.length ∧ Hid (RL w WR c m l ba bs i v rows s q)) (fun _ y _ => 2000000 - (intOf y).toNat)
 case atStart => exact ⟨0, _, _, _, rfl, by omega, h0⟩
 case round =>
  clear h0
  obtain ⟨i, rows, s, q, rfl, hi, hR⟩ := hrel
  by_cases hlt : i < l.length
  case neg =>
   have tl : decide ((i : Int) < (l.length : Int)) = false := qzN (by omega)
   go_wp2
   go_ret2
   have hR := hR.out
   have hd : l.drop i = [] := List.drop_of_length_le (by omega)
   have e0 := hR.e
   rw [hd] at e0
   have e1 : E = 0 := by rw [HE2.out, ← e0]; rfl
   have e2 : F = xB0 c c.first l := by rw [HF.out, if_pos e1]
   obtain ⟨pre, p1, p2⟩ := hR.p
   rw [hd] at p2
   rw [e1, e2]
   exact ⟨⟨_, rows, rfl, by rw [p1, ← p2]; rfl, ⟨hR.o.more (by have := lbs.out; omega), hR.r⟩, by have := hR.n; omega⟩, hR.b⟩
  obtain ⟨x, hx⟩ : ∃ x, l[i]? = some x := ⟨_, qzJ hlt⟩
  obtain ⟨b0, o0, e0, hb0, hc0⟩ := xAx (HA.out.below hR.out.b) hx
  have hix := fun W => xAq (t := 22) (size := 1) (cap := cap) (len := l.length) e0 hlt (by kernel_rfl) (fun W => by kernel_rfl) W
  have x0 : wr.cell? ⟨b0, o0 + i, none⟩ = some (.int .i64 x) := by have := hc0 0 _ rfl; simpa using this
  have tl : decide ((i : Int) < (l.length : Int)) = true := qzO (by omega)
  have HX := qzL hx
  have gaR := hR.out.ga
  have gsR := hR.out.gs
  clear hx hc0 e0
  obtain ⟨SE1, hSE⟩ : ∃ E, s.stepE c x = E := ⟨_, rfl⟩
  obtain ⟨SS1, hSS⟩ : ∃ E, s.stepS c x = E := ⟨_, rfl⟩
  have HSX := HSP.out wr s q x hR.out.b hR.out.st.m
  rw [hSE, hSS] at HSX
  have HSX := qzL HSX
  have HSE := qzL hSE
  have HSS := qzL hSS
  clear hSE hSS
  go_upto_region 11 with (first | (refine xAi (by rfl) 27 _ rfl ba rfl 27 _ gaR ⟨_, Tryz.underlying27⟩ (by kernel_rfl) ?_; simp only [Act.put, qzG, qzH, qzI]) | (refine xAi (by rfl) 43 _ rfl bs rfl 43 _ gsR ⟨_, Tryz.underlying43⟩ (by kernel_rfl) ?_; simp only [Act.put, qzG, qzH, qzI]) | (go_at_call 26; (with_reducible refine HSX.out.mono ?_); rintro e w1 ⟨⟨q1, rfl, hs1, ho1, ht1⟩, hb1⟩) | (refine xAg rfl 43 _ _ rfl bs 43 [] (stA s q).toList [] (stA SS1 q1).toList rfl rfl (gsR.then_ hb1) rfl (by kernel_rfl) (by simp [Value.oneCell']) ?_; intro we ge ue))
  by_cases h1 : SE1 = 0
  case neg =>
   have t1 : (SE1 != 0) = true := by simpa using h1
   have H1 := qzL h1
   have hB := qzL ((xAa hR.out.b hb1).trans (ue.b _ lbs.out.1))
   clear h1 hb1
   go_wp2
   go_ret2
   have hd : l.drop i = x :: l.drop (i + 1) := by
    obtain ⟨hi, e⟩ := qzM HX.out
    rw [List.drop_eq_getElem_cons hi, e]
   have e1 : E = SE1 := by rw [HE2.out, ← hR.out.e, hd, YtginnonjdbpamaaGreatDoor.runE, if_neg (by rw [HSE.out]; exact H1.out), HSE.out]
   have e2 : F = [] := by rw [HF.out, e1, if_neg H1.out]
   rw [e1, e2]
   exact RetL.none hB.out
  have t1 : (SE1 != 0) = false := by simpa using h1
  have e9 : SS1 = s.step c x := by
   have a := HSS.out
   unfold Sta.stepS at a
   rw [HSE.out, if_pos h1] at a
   exact a.symm
  subst e9
  have H1 := qzL h1
  clear h1
  have oR := (((hR.out.o.below hb1).upd ue (hR.out.o.ne_ (by omega))).alloc (.cells (eQ (s.step c x, q1)).toArray 43))
  have nR : rows.length ≤ 1000000 := by have := hR.out.n; omega
  have lwe : bs + 1 ≤ we.heap.size := by have := ge.lt; omega
  have HB1 := qzL hb1
  have HS1 := qzL hs1
  have HO1 := qzL ho1
  have HT1 := qzL ht1
  clear hb1 hs1 ho1 ht1 HSX x0 hix gsR gaR
  go_upto_region 14 with (first | (refine xAi (by rfl) 43 _ rfl bs rfl 43 _ ge ⟨_, Tryz.underlying43⟩ (by kernel_rfl) ?_; simp only [Act.put, qzG, qzH, qzI]) | (at_builtin; refine xA8 _ rfl (.tmp 40) (.tmp 42) _ rfl (bs + 1) 43 ri _ 4 80 Tryz.underlying30 hi1 hz10 hz11 hz12 rfl (by omega) (by omega) eQ xC6 one_sta _ rows rfl oR nR _ 1 (s.step c x, q1) rfl (Blk.new _ _ _) (by simp; omega) ?_; intro v' w3 hO2 hb2 hg2))
  have hN := qzL (hR.out.step HX.out (by rw [HSE.out]; exact H1.out) HB1.out ⟨HS1.out, HO1.out, HT1.out⟩ ue ge hO2 hb2 hg2)
  clear hR ge ue oR hO2 hb2 hg2 HB1 HS1 HO1 HT1 HSE HSS tl t1
  go_wp2
  go_roundw
  case rel => exact ⟨i + 1, _, _, _, by simp, by omega, hN⟩
  case measure => simp [intOf]; omega
end Go.Proofs.YtginnonjdbpamaaGreatDoor
/- The walk of the laws' example. -/
namespace Go.Proofs.YtginnonjdbpamaaGreatDoor
open Go.RowKit
def dutX : Cla := { kind := 1, role := 0, act := 0, need := 1, start := [], aft := 2, grace := 1, bus := false, fin := true, pause := -1, resume := -1, v := (0, 1), unit := -1, to_ := -1, waived := false }
def banX : Cla := { kind := 2, role := 1, act := 1, need := 1, start := [(0, 2)], aft := 3, grace := 0, bus := false, fin := false, pause := -1, resume := -1, v := (0, 1), unit := -1, to_ := -1, waived := false }
def Con.ex : Con := { par := 2, hold := [0, 1], un := [], ac := [{ kind := 1, role := 0, give := 0, to_ := -1, unit := -1, lot := (0, 1) }, { kind := 1, role := 1, give := 0, to_ := -1, unit := -1, lot := (0, 1) }], cl := [dutX, banX], days := 9, off := [] }
abbrev coZ0 : Array Value := #[.int .i64 0, .slice none 0 0, .slice none 0 0, .slice none 0 0, .slice none 0 0, .int .i64 0, .slice none 0 0]
abbrev kZ0 : Array Value := #[.int .i64 0, .int .i64 0, .int .i64 0, .int .i64 0, .slice none 0 0, .int .i64 0, .int .i64 0, .bool false, .bool false, .int .i64 0, .int .i64 0, .int .i64 0, .int .i64 0, .int .i64 0, .int .i64 0, .bool false]
abbrev kD0 : Array Value := #[.int .i64 1, .int .i64 0, .int .i64 0, .int .i64 1, .slice none 0 0, .int .i64 2, .int .i64 1, .bool false, .bool true, .int .i64 (-1), .int .i64 (-1), .int .i64 0, .int .i64 1, .int .i64 (-1), .int .i64 (-1), .bool false]
abbrev kB0 (b : Nat) : Array Value := #[.int .i64 2, .int .i64 1, .int .i64 1, .int .i64 1, .slice (some ⟨b, 0, none⟩) 1 1, .int .i64 3, .int .i64 0, .bool false, .bool false, .int .i64 (-1), .int .i64 (-1), .int .i64 0, .int .i64 1, .int .i64 (-1), .int .i64 (-1), .bool false]
theorem xI7 (w : World) : Calls Tryz.prog 29 #[] w fun e w' => (∃ m, e = .returned (.agg (coA Con.ex m)) ∧ Cont w' Con.ex m) ∧ Below w.heap.size w w' := by
 go_enter Tryz.func29, Tryz.ntmps29
 go_upto_region 2 with (fail)
 refine xAf ?_
 intro X hX
 have gR : Blk X w.heap.size 27 coZ0 := by rw [hX]; exact (Blk.new _ _ _).alloc _
 have g1 : Blk X (w.heap.size + 1) 50 #[.int .i64 0, .int .i64 1] := by rw [hX]; exact xA5 (by simp)
 have HB : Below w.heap.size w X := by rw [hX]; (repeat (first | exact Below.refl _ _ | refine xAc ?_ _))
 obtain ⟨b1, e1⟩ : ∃ b, w.heap.size + 1 = b := ⟨_, rfl⟩
 obtain ⟨bR, eR⟩ : ∃ b, w.heap.size = b := ⟨_, rfl⟩
 have lR : Hid (w.heap.size ≤ bR ∧ bR < b1) := by unfold Hid; omega
 rw [e1] at g1 ⊢
 rw [eR] at gR ⊢
 clear hX e1 eR
 have r0 : X.cell? ⟨b1, 0, none⟩ = some (.int .i64 0) := g1.cell 0
 have r1 : X.cell? ⟨b1, 1, none⟩ = some (.int .i64 1) := g1.cell 1
 go_upto_region 3 with (refine xAg rfl 52 _ _ rfl X.heap.size 52 [] kZ0.toList [] kD0.toList rfl rfl (Blk.new _ _ _) rfl (by kernel_rfl) (by simp [Value.oneCell']) ?_; intro Y g2 u2)
 have hbY : Below X.heap.size X Y := (wa1 _ _).trans (u2.b _ (Nat.le_refl _))
 have g1Y := g1.then_ hbY
 have gRY := gR.then_ hbY
 have HBY := xAa HB hbY
 have g2 : Blk Y X.heap.size 52 kD0 := g2
 obtain ⟨b2, e2⟩ : ∃ b, X.heap.size = b := ⟨_, rfl⟩
 have l2 : Hid (b1 < b2) := by have := g1.lt; unfold Hid; omega
 rw [e2] at g2 ⊢
 clear e2 g1 gR HB hbY u2 r0 r1
 have r0 : Y.cell? ⟨b1, 0, none⟩ = some (.int .i64 0) := g1Y.cell 0
 have r1 : Y.cell? ⟨b1, 1, none⟩ = some (.int .i64 1) := g1Y.cell 1
 have nb1 : b1 ≠ Y.heap.size := by have := g1Y.lt; omega
 have g1Z := g1Y.alloc (.cells #[.int .i64 0, .int .i64 2] 121)
 go_upto_region 4 with (first | (refine xAi (by rfl) 50 _ rfl b1 rfl 50 _ g1Z ⟨_, Tryz.underlying50⟩ (by kernel_rfl) ?_; simp only [Act.put, qzG, qzH, qzI]) | (refine xAg rfl 52 _ _ rfl (Y.heap.size + 1) 52 [] kZ0.toList [] (kB0 Y.heap.size).toList rfl rfl (xA5 (by simp)) rfl (by kernel_rfl) (by simp [Value.oneCell']) ?_; intro Z g3 u3))
 have hbZ : Below Y.heap.size Y Z := (xAc (wa1 _ _) _).trans (u3.b _ (by omega))
 have gS : Blk Z Y.heap.size 121 #[.int .i64 0, .int .i64 2] := ((Blk.new Y 121 #[.int .i64 0, .int .i64 2]).alloc _).upd u3 (by omega)
 have g1A := g1Y.then_ hbZ
 have gRA := gRY.then_ hbZ
 have g2A := g2.then_ hbZ
 have g3 : Blk Z (Y.heap.size + 1) 52 (kB0 Y.heap.size) := g3
 have HBZ := xAa HBY hbZ
 obtain ⟨bS, eS⟩ : ∃ b, Y.heap.size = b := ⟨_, rfl⟩
 obtain ⟨b3, e3⟩ : ∃ b, Y.heap.size + 1 = b := ⟨_, rfl⟩
 have l3 : Hid (b2 < bS ∧ bS < b3) := by have := g2.lt; unfold Hid; omega
 rw [e3] at g3 ⊢
 rw [eS] at gS g3
 clear e3 eS g1Y gRY g2 HBY hbZ u3 r0 r1 nb1 g1Z
 have g1B := g1A.alloc (.cells #[.int .i64 0, .int .i64 1] 3)
 have g2B := ((g2A.alloc (.cells #[.int .i64 0, .int .i64 1] 3)).alloc (.cells (Con.ex.ac.flatMap eA).toArray 118))
 have g3B := ((g3.alloc (.cells #[.int .i64 0, .int .i64 1] 3)).alloc (.cells (Con.ex.ac.flatMap eA).toArray 118))
 go_wp2_with (first | (refine xAi (by rfl) 50 _ rfl b1 rfl 50 _ g1B ⟨_, Tryz.underlying50⟩ (by kernel_rfl) ?_; simp only [Act.put, qzG, qzH, qzI]) | (refine xAi (by rfl) 52 _ rfl b2 rfl 52 _ g2B ⟨_, Tryz.underlying52⟩ (by kernel_rfl) ?_; simp only [Act.put, qzG, qzH, qzI]) | (refine xAi (by rfl) 52 _ rfl b3 rfl 52 _ g3B ⟨_, Tryz.underlying52⟩ (by kernel_rfl) ?_; simp only [Act.put, qzG, qzH, qzI]) | (refine xAg rfl 27 _ _ rfl bR 27 [] coZ0.toList [] (coA Con.ex ⟨some ⟨Z.heap.size, 0, none⟩, 2, none, 0, some ⟨Z.heap.size + 1, 0, none⟩, 2, some ⟨Z.heap.size + 2, 0, none⟩, 2, none, 0, [⟨dutX, none, 0⟩, ⟨banX, some ⟨bS, 0, none⟩, 1⟩]⟩).toList rfl rfl (((gRA.alloc _).alloc _).alloc _) rfl (by kernel_rfl) (by simp [Value.oneCell']) ?_; intro w2 gw U2))
 have lZ := gRA.lt
 have lS := gS.lt
 have gh := (((Blk.new Z 3 #[.int .i64 0, .int .i64 1]).alloc (.cells (Con.ex.ac.flatMap eA).toArray 118)).alloc (.cells (([⟨dutX, none, 0⟩, ⟨banX, some ⟨bS, 0, none⟩, 1⟩] : List Km).flatMap eK).toArray 52)).upd U2 (by omega)
 have ga := ((xA5 (w := Z.alloc (.cells #[.int .i64 0, .int .i64 1] 3)) (n := Z.heap.size + 1) (T := 118) (cs := (Con.ex.ac.flatMap eA).toArray) (by simp)).alloc (.cells (([⟨dutX, none, 0⟩, ⟨banX, some ⟨bS, 0, none⟩, 1⟩] : List Km).flatMap eK).toArray 52)).upd U2 (show Z.heap.size + 1 ≠ bR by omega)
 have gk := (xA5 (w := (Z.alloc (.cells #[.int .i64 0, .int .i64 1] 3)).alloc (.cells (Con.ex.ac.flatMap eA).toArray 118)) (n := Z.heap.size + 2) (T := 52) (cs := (([⟨dutX, none, 0⟩, ⟨banX, some ⟨bS, 0, none⟩, 1⟩] : List Km).flatMap eK).toArray) (by simp)).upd U2 (show Z.heap.size + 2 ≠ bR by omega)
 have gs := (((gS.alloc (.cells #[.int .i64 0, .int .i64 1] 3)).alloc (.cells (Con.ex.ac.flatMap eA).toArray 118)).alloc (.cells (([⟨dutX, none, 0⟩, ⟨banX, some ⟨bS, 0, none⟩, 1⟩] : List Km).flatMap eK).toArray 52)).upd U2 (by have := l3.out; have := l2.out; have := lR.out; omega)
 have hh : Seg w2 w2.heap.size 1 eI (some ⟨Z.heap.size, 0, none⟩) [0, 1] := xC4 (xs := [0, 1]) xAz gh
 have ha : Seg w2 w2.heap.size 7 eA (some ⟨Z.heap.size + 1, 0, none⟩) Con.ex.ac := xC4 (xs := Con.ex.ac) eA_len ga
 have hk : Seg w2 w2.heap.size 16 eK (some ⟨Z.heap.size + 2, 0, none⟩) [⟨dutX, none, 0⟩, ⟨banX, some ⟨bS, 0, none⟩, 1⟩] := xC4 (xs := ([⟨dutX, none, 0⟩, ⟨banX, some ⟨bS, 0, none⟩, 1⟩] : List Km)) eK_len gk
 have hs : Seg w2 w2.heap.size 2 eS (some ⟨bS, 0, none⟩) [(0, 2)] := xC4 (xs := [((0 : Int), (2 : Int))]) xFv gs
 refine bodyPost_ret (ret_row rfl rfl gw ⟨_, Tryz.underlying27⟩ (by kernel_rfl)) rfl ?_
 refine ⟨⟨⟨some ⟨Z.heap.size, 0, none⟩, 2, none, 0, some ⟨Z.heap.size + 1, 0, none⟩, 2, some ⟨Z.heap.size + 2, 0, none⟩, 2, none, 0, [⟨dutX, none, 0⟩, ⟨banX, some ⟨bS, 0, none⟩, 1⟩]⟩, rfl, ⟨hh, Seg.nil _ _ _ _ _, ha, hk, Seg.nil _ _ _ _ _, rfl, ?_, ?_, ?_, by decide, by decide, by decide, by decide, by decide, Nat.le_refl _, Nat.le_refl _, Nat.le_refl _, Nat.le_refl _, Nat.le_refl _⟩⟩, ?_⟩
 ·intro x hx
  rcases List.mem_cons.1 hx with rfl | hx
  ·exact ⟨Seg.nil _ _ _ _ _, by decide, by decide, by decide⟩
  ·rcases List.mem_cons.1 hx with rfl | hx
   ·exact ⟨hs, show I64 banX.v.1 ∧ I64 banX.v.2 by decide, show banX.start.length ≤ 1000000 by decide, show banX.start.length ≤ 1 by decide⟩
   ·cases hx
 ·intro x hx
  cases hx
 ·decide
 ·have hb := HBZ.size
  exact (((HBZ.alloc hb _).alloc (by simp; omega) _).alloc (by simp; omega) _).trans (U2.b _ lR.out.1)
end Go.Proofs.YtginnonjdbpamaaGreatDoor
/- The closures of validate.Decode, and what its loops leave to do. -/
namespace Go.Proofs.YtginnonjdbpamaaGreatDoor
open Go.RowKit
structure Lw (w : World) : Prop where
 tab : Lib.TabIs Tryz.prog w "internal/strconv.uint64pow10" .u64 Lib.pow10Tab
 sy : ∃ ev, w.cell? ⟨1, 0, none⟩ = some ev ∧ (ev = .nilIface ∨ ∃ te pe, ev = .iface te pe)
 rg : ∃ ev, w.cell? ⟨2, 0, none⟩ = some ev ∧ (ev = .nilIface ∨ ∃ te pe, ev = .iface te pe)
 ml : ∃ m, w.cell? ⟨0, 0, none⟩ = some (.int .i64 m)
theorem tab_below {P : Program} {w w' : World} {name : String} {k : IntKind} {zs : List Int} (h : Lib.TabIs P w name k zs) (hb : Below w.heap.size w w') : Lib.TabIs P w' name k zs := by
 unfold Lib.TabIs World.var? at *
 cases hg : P.globalNamed name with
 | none => simp [hg] at h
 | some g =>
  simp only [hg, Option.bind_some] at h ⊢
  have hlt : g < w.heap.size := by
   rcases Nat.lt_or_ge g w.heap.size with hl | hl
   ·exact hl
   ·rw [Array.getElem?_eq_none hl] at h; simp at h
  rw [hb.block g hlt]
  exact h
theorem Lw.below {w w' : World} (h : Lw w) (hb : Below w.heap.size w w') : Lw w' := by
 obtain ⟨e1, h1, h2⟩ := h.sy
 obtain ⟨e2, h3, h4⟩ := h.rg
 obtain ⟨m, h5⟩ := h.ml
 exact ⟨tab_below h.tab hb, ⟨e1, (hb.cell (block_lt_of_cell h1)).trans h1, h2⟩, ⟨e2, (hb.cell (block_lt_of_cell h3)).trans h3, h4⟩, ⟨m, (hb.cell (block_lt_of_cell h5)).trans h5⟩⟩
theorem itoa_any (n : Int) (w : World) (hL : Lw w) (h : J64 n) :
  Calls Tryz.prog 39 #[.int .i64 n] w fun e w' => e = .returned (.string (tBy (Lib.itoa n))) ∧ Below w.heap.size w w' :=
 (Tryz.strconv_Itoa n h.1 h.2 w hL.tab).mono fun _ _ ⟨a, k, os, b⟩ => ⟨a, by subst b; exact below_regrown w (w.drawn + k) os⟩
theorem atoi_ok (s : List UInt8) (v : Int) (w : World) (hs : s.length ≤ 1000000) (h : Lib.atoiAll s = .ok v) :
  Calls Tryz.prog 38 #[.string (tBy s)] w fun e w' => e = .returned (.tuple #[.int .i64 v, .nilIface]) ∧ Below w.heap.size w w' :=
 (Tryz.strconv_Atoi_ok (tBy s) (by rw [xBe]; omega) v h w).mono fun _ _ ⟨a, b⟩ => ⟨a, by
  rcases b with rfl | ⟨t, rfl⟩
  ·exact Below.refl _ _
  ·exact Lib.bytesWorld_below _ _ _⟩
theorem atoi_no (s : List UInt8) (w : World) (hL : Lw w) (hs : s.length ≤ 1000000) (h : ∀ v, Lib.atoiAll s ≠ .ok v) :
  Calls Tryz.prog 38 #[.string (tBy s)] w fun e w' => ∃ v t p, e = .returned (.tuple #[.int .i64 v, .iface t p]) ∧ Below w.heap.size w w' := by
 by_cases hc : Lib.atoiAll s = .range
 ·obtain ⟨ev, h1, h2⟩ := hL.rg
  exact (Tryz.strconv_Atoi_range (tBy s) (by rw [xBe]; omega) hc ev w h1 h2).mono fun _ _ ⟨N, a, _, _, b⟩ => ⟨_, _, _, a, b⟩
 ·obtain ⟨ev, h1, h2⟩ := hL.sy
  exact (Tryz.strconv_Atoi_bad (tBy s) (by rw [xBe]; omega) h hc ev w h1 h2).mono fun _ _ ⟨N, a, _, _, b⟩ => ⟨_, _, _, a, b⟩
theorem cutB_any (s : List UInt8) (e : UInt8) (w : World) (hL : Lw w) (hs : s.length ≤ 1000000) :
  Calls Tryz.prog 36 #[.string (tBy s), .string ⟨#[e]⟩] w fun x w' => x = .returned (.tuple #[.string (tBy (Lib.cut s [e]).1), .string (tBy (Lib.cut s [e]).2.1), .bool (Lib.cut s [e]).2.2]) ∧ Below w.heap.size w w' := by
 obtain ⟨m, hm⟩ := hL.ml
 exact (Tryz.strings_Cut (tBy s) ⟨#[e]⟩ m w (by rw [xBe]; omega) hm).mono fun _ _ ⟨a, n, b⟩ => ⟨a, by subst b; exact xAk (Below.refl _ _) _⟩
abbrev pRG (br bg x : Nat) : Prop := x = br ∨ x = bg
theorem take_any (br bg : Nat) (e : UInt8) (t : List UInt8) (good : Bool) (w : World) (hL : Lw w) (ht : t.length ≤ 1000000) (hr : Blk w br 9 #[.string (tBy t)]) (hg : Blk w bg 4 #[.bool good]) :
  Calls Tryz.prog 35 #[.string ⟨#[e]⟩, .pointer (some ⟨br, 0, none⟩), .pointer (some ⟨bg, 0, none⟩)] w fun x w' => x = .returned (.string (tBy (Lib.cut t [e]).1)) ∧ Blk w' br 9 #[.string (tBy (Lib.cut t [e]).2.1)] ∧ Blk w' bg 4 #[.bool (good && (Lib.cut t [e]).2.2)] ∧ Kept w w' (pRG br bg) := by
 have hne : br ≠ bg := xAw hr hg (by decide)
 have HR := qzL hr
 have HG := qzL hg
 have k0 : w.cell? ⟨br, 0, none⟩ = some (.string (tBy t)) := hr.cell 0
 have HC := qzL (cutB_any t e w hL ht)
 obtain ⟨C, hC⟩ : ∃ C, Lib.cut t [e] = C := ⟨_, rfl⟩
 rw [hC] at HC ⊢
 obtain ⟨c1, c2, c3⟩ := C
 have HC : Hid (Calls Tryz.prog 36 #[.string (tBy t), .string ⟨#[e]⟩] w fun x w' => x = .returned (.tuple #[.string (tBy c1), .string (tBy c2), .bool c3]) ∧ Below w.heap.size w w') := HC
 show Calls Tryz.prog 35 #[.string ⟨#[e]⟩, .pointer (some ⟨br, 0, none⟩), .pointer (some ⟨bg, 0, none⟩)] w fun x w' => x = .returned (.string (tBy c1)) ∧ Blk w' br 9 #[.string (tBy c2)] ∧ Blk w' bg 4 #[.bool (good && c3)] ∧ Kept w w' (pRG br bg)
 clear hr hg hC hL ht
 go_enter Tryz.func35, Tryz.ntmps35
 go_upto_region 2 with (go_at_call 36; (with_reducible refine HC.out.mono ?_); rintro x w1 ⟨rfl, hb1⟩)
 have r1 := HR.out.then_ hb1
 have g1 := HG.out.then_ hb1
 have f1 : w1.frozen? ⟨br, 0, none⟩ = false := r1.frozen 0
 have f2 : w1.frozen? ⟨bg, 0, none⟩ = false := g1.frozen 0
 have q1 : w1.cell? ⟨br, 0, none⟩ = some (.string (tBy t)) := r1.cell 0
 have q2 : w1.cell? ⟨bg, 0, none⟩ = some (.bool good) := g1.cell 0
 have R1 := qzL r1
 have G1 := qzL g1
 clear r1 g1 k0
 cases good with
 | true =>
  go_wp2
  go_ret
  exact ⟨rfl, (R1.out.set_ 0 _).far (p := ⟨bg, 0, none⟩) hne _, ((G1.out.far (p := ⟨br, 0, none⟩) hne.symm _).set_ 0 _), ((Kept.of_below hb1).setCell (.inl rfl)).setCell (.inr rfl)⟩
 | false =>
  go_wp2
  go_ret
  exact ⟨rfl, (R1.out.set_ 0 _).far (p := ⟨bg, 0, none⟩) hne _, ((G1.out.far (p := ⟨br, 0, none⟩) hne.symm _).set_ 0 _), ((Kept.of_below hb1).setCell (.inl rfl)).setCell (.inr rfl)⟩
theorem xF9 (bg : Nat) (t : List UInt8) (good : Bool) (w : World) (hL : Lw w) (ht : t.length ≤ 1000000) (hg : Blk w bg 4 #[.bool good]) :
  Calls Tryz.prog 37 #[.string (tBy t), .pointer (some ⟨bg, 0, none⟩)] w fun x w' => ∃ n, x = .returned (.int .i64 n) ∧ (numO t = true → n = numD t) ∧ Blk w' bg 4 #[.bool (good && numO t)] ∧ Kept w w' (· = bg) := by
 have HG := qzL hg
 by_cases hex : ∃ v, Lib.atoiAll t = .ok v
 case neg =>
  have hno : ∀ v, Lib.atoiAll t ≠ .ok v := fun v e => hex ⟨v, e⟩
  have hO : numO t = false := by
   unfold numO
   cases h : Lib.atoiAll t with
   | ok v => exact absurd h (hno v)
   | _ => rfl
  have HA := qzL (atoi_no t w hL ht hno)
  rw [hO]
  clear hg hL ht hex hno
  go_enter Tryz.func37, Tryz.ntmps37
  go_upto_region 2 with (go_at_call 38; (with_reducible refine HA.out.mono ?_); rintro x w1 ⟨v, te, pe, rfl, hb1⟩)
  have g1 := HG.out.then_ hb1
  have f2 : w1.frozen? ⟨bg, 0, none⟩ = false := g1.frozen 0
  have q2 : w1.cell? ⟨bg, 0, none⟩ = some (.bool good) := g1.cell 0
  have G1 := qzL g1
  clear g1
  cases good with
  | true =>
   go_wp2
   go_ret
   exact ⟨v, rfl, fun h => (by cases h), G1.out.set_ 0 _, (Kept.of_below hb1).setCell rfl⟩
  | false =>
   go_wp2
   go_ret
   exact ⟨v, rfl, fun h => (by cases h), G1.out.set_ 0 _, (Kept.of_below hb1).setCell rfl⟩
 case pos =>
  obtain ⟨v, hv⟩ := hex
  have hO : numO t = (Lib.itoa v == t) := by unfold numO; rw [hv]
  have hD : numD t = v := by unfold numD; rw [hv]
  have HA := qzL (atoi_ok t v w ht hv)
  have HL := qzL hL
  have hJ := atoi_J64 hv
  have HJ := qzL hJ
  obtain ⟨R, hR⟩ : ∃ R, (Lib.itoa v == t) = R := ⟨_, rfl⟩
  have hq : ((tBy (Lib.itoa v)).toList == (tBy t).toList) = R := by
   rw [ByteArray.toList_eq, ByteArray.toList_eq]
   exact hR
  rw [hO, hD, hR]
  clear hg hL ht hv hO hD hJ hR
  go_enter Tryz.func37, Tryz.ntmps37
  go_upto_region 2 with (go_at_call 38; (with_reducible refine HA.out.mono ?_); rintro x w1 ⟨rfl, hb1⟩)
  have g1 := HG.out.then_ hb1
  have f2 : w1.frozen? ⟨bg, 0, none⟩ = false := g1.frozen 0
  have q2 : w1.cell? ⟨bg, 0, none⟩ = some (.bool good) := g1.cell 0
  have G1 := qzL g1
  clear g1
  cases good with
  | true =>
   have HI := qzL (itoa_any v w1 (HL.out.below hb1) HJ.out)
   go_wp2_with (go_at_call 39; (with_reducible refine HI.out.mono ?_); rintro x w2 ⟨rfl, hb2⟩; have f3 : w2.frozen? ⟨bg, 0, none⟩ = false := (G1.out.then_ hb2).frozen 0; have q3 : w2.cell? ⟨bg, 0, none⟩ = some (.bool true) := (G1.out.then_ hb2).cell 0)
   go_ret
   exact ⟨v, rfl, fun _ => rfl, (by have h5 := (G1.out.then_ hb2).set_ 0 (.bool R); simpa using h5), (Kept.of_below (xAa hb1 hb2)).setCell rfl⟩
  | false =>
   go_wp2
   go_ret
   exact ⟨v, rfl, fun _ => rfl, G1.out.set_ 0 _, (Kept.of_below hb1).setCell rfl⟩
end Go.Proofs.YtginnonjdbpamaaGreatDoor
/- Decode, step by step: what is left to do behind each part. No program in sight. -/
namespace Go.Proofs.YtginnonjdbpamaaGreatDoor
theorem xIb : ∀ (n m : Nat) (t : List UInt8), t.length < n → t.length < m → decH n t = decH m t
 | 0, _, _, h, _ => absurd h (by omega)
 | _, 0, _, _, h => absurd h (by omega)
 | n + 1, m + 1, t, hn, hm => by
  rw [decH, decH]
  split
  ·rfl
  ·cases e : xC8 t 44 with
   | none => rfl
   | some x =>
    have := takeN_len (n := x.1) (r := x.2) e
    simp only [Option.bind_some]
    rw [xIb n m x.2 (by omega) (by omega)]
theorem xH9 : ∀ (n m : Nat) (t : List UInt8), t.length < n → t.length < m → decM n t = decM m t
 | 0, _, _, h, _ => absurd h (by omega)
 | _, 0, _, _, h => absurd h (by omega)
 | n + 1, m + 1, t, hn, hm => by
  rw [decM, decM]
  split
  ·rfl
  ·cases e : xGp t with
   | none => rfl
   | some x =>
    have := xHd (m := x.1) (r := x.2) e
    simp only [Option.bind_some]
    rw [xH9 n m x.2 (by omega) (by omega)]
def xEt (N : Nat) (d : Int) (hol : List Int) (us : List Bool) (acc : List Mk) (r : List UInt8) : Option Sta := (decM N r).map fun m => ⟨d, hol, us, acc ++ m⟩
def cont2 (N : Nat) (d : Int) (hol : List Int) (r : List UInt8) : Option Sta :=
 if (Lib.cut r [59]).2.2 = true then (decU (Lib.cut r [59]).1).bind fun u => xEt N d hol u [] (Lib.cut r [59]).2.1 else none
def xEj (N : Nat) (d : Int) (acc : List Int) (r : List UInt8) : Option Sta := (decH N r).bind fun h => cont2 N d (acc ++ h.1) h.2
theorem decV_cont (t : List UInt8) : decV t = (xC8 t 59).bind fun d => xEj (t.length + 1) d.1 [] d.2 := by
 unfold decV xEj cont2 xEt
 simp only [qzF]
theorem xIf {N : Nat} {d : Int} {acc : List Int} {r : List UInt8} (h : r.head? = some 59) (hN : r.length < N) : xEj N d acc r = cont2 N d acc (r.drop 1) ∧ Lib.cut r [59] = ([], r.drop 1, true) := by
 obtain ⟨n, rfl⟩ : ∃ n, N = n + 1 := ⟨N - 1, by omega⟩
 refine ⟨?_, ?_⟩
 ·unfold xEj
  rw [decH, if_pos h, Option.bind_some, List.append_nil]
 ·cases r with
  | nil => cases h
  | cons c l =>
   injection h with h
   subst h
   exact xEi [] l 59 (by simp)
theorem cont1_step {N : Nat} {d : Int} {acc : List Int} {r c1 c2 : List UInt8} {c3 : Bool} (h : r.head? ≠ some 59) (hN : r.length < N) (hc : Lib.cut r [44] = (c1, c2, c3)) :
  xEj N d acc r = if (c3 && numO c1) = true then xEj N d (acc ++ [numD c1]) c2 else none := by
 obtain ⟨n, rfl⟩ : ∃ n, N = n + 1 := ⟨N - 1, by omega⟩
 have hf := xG7 r 44
 rw [hc] at hf
 unfold xEj
 rw [decH, if_neg h]
 unfold xC8
 rw [hc]
 simp only [Bool.and_eq_true]
 by_cases h1 : c3 = true ∧ numO c1 = true
 ·rw [if_pos h1, if_pos h1]
  have := hf h1.1
  simp only [Option.bind_some]
  rw [xIb n (n + 1) c2 (by simp only at this; omega) (by simp only at this; omega)]
  cases decH (n + 1) c2 with
  | none => rfl
  | some x => simp
 ·rw [if_neg h1, if_neg h1]
  rfl
theorem cont3_end {N : Nat} {d : Int} {hol : List Int} {us : List Bool} {acc : List Mk} (hN : 0 < N) : xEt N d hol us acc [] = some ⟨d, hol, us, acc⟩ := by
 obtain ⟨n, rfl⟩ : ∃ n, N = n + 1 := ⟨N - 1, by omega⟩
 unfold xEt
 rw [decM, if_pos rfl]
 simp
theorem xH1 (w : List UInt8) : (Lib.trimSuffix w [112], Lib.hasSuffix w [112]) = xCz w := by
 have key : Lib.hasSuffix w [112] = true ↔ w.getLast? = some 112 := by
  unfold Lib.hasSuffix
  rw [List.isSuffixOf_iff_suffix]
  constructor
  ·rintro ⟨l, rfl⟩; simp
  ·intro h
   obtain ⟨l, rfl⟩ := List.getLast?_eq_some_iff.1 h
   exact ⟨l, rfl⟩
 unfold xCz Lib.trimSuffix
 by_cases h : w.getLast? = some 112
 ·rw [if_pos h, if_pos (key.2 h), key.2 h]
  rw [List.dropLast_eq_take]
  rfl
 ·rw [if_neg h, if_neg (fun e => h (key.1 e))]
  have : Lib.hasSuffix w [112] = false := Bool.eq_false_iff.2 fun e => h (key.1 e)
  rw [this]
theorem cont3_step {N : Nat} {d : Int} {hol : List Int} {us : List Bool} {acc : List Mk} {r a1 r1 a2 r2 a3 r3 a4 r4 l4 : List UInt8} {f1 f2 f3 f4 p4 : Bool} (hr : r ≠ []) (hN : r.length < N)
  (h1 : Lib.cut r [46] = (a1, r1, f1)) (h2 : Lib.cut r1 [46] = (a2, r2, f2)) (h3 : Lib.cut r2 [46] = (a3, r3, f3)) (h4 : Lib.cut r3 [44] = (a4, r4, f4)) (h5 : xCz a4 = (l4, p4)) :
  xEt N d hol us acc r = if (f1 && numO a1 && f2 && numO a2 && f3 && numO a3 && f4 && numO l4) = true then xEt N d hol us (acc ++ [⟨numD a1, numD a2, numD a3, numD l4, p4⟩]) r4 else none := by
 obtain ⟨n, rfl⟩ : ∃ n, N = n + 1 := ⟨N - 1, by omega⟩
 have e : xGp r = if (f1 && numO a1 && f2 && numO a2 && f3 && numO a3 && f4 && numO l4) = true then some (⟨numD a1, numD a2, numD a3, numD l4, p4⟩, r4) else none := by
  unfold xGp xC8 takeB
  rw [h1]
  cases hq : (f1 && numO a1) with
  | false =>
   have : ¬ (f1 = true ∧ numO a1 = true) := by rw [← Bool.and_eq_true, hq]; decide
   simp [this]
  | true =>
  have := Bool.and_eq_true _ _ ▸ hq
  simp only [this, and_self, if_true, Option.bind_some, Bool.true_and]
  rw [h2]
  cases hq : (f2 && numO a2) with
  | false =>
   have : ¬ (f2 = true ∧ numO a2 = true) := by rw [← Bool.and_eq_true, hq]; decide
   simp [this]
  | true =>
  have := Bool.and_eq_true _ _ ▸ hq
  simp only [this, and_self, if_true, Option.bind_some, Bool.true_and]
  rw [h3]
  cases hq : (f3 && numO a3) with
  | false =>
   have : ¬ (f3 = true ∧ numO a3 = true) := by rw [← Bool.and_eq_true, hq]; decide
   simp [this]
  | true =>
  have := Bool.and_eq_true _ _ ▸ hq
  simp only [this, and_self, if_true, Option.bind_some, Bool.true_and]
  rw [h4]
  simp only [h5]
  cases hq : (f4 && numO l4) with
  | false =>
   have : ¬ (f4 = true ∧ numO l4 = true) := by rw [← Bool.and_eq_true, hq]; decide
   simp [this]
  | true =>
  have := Bool.and_eq_true _ _ ▸ hq
  simp only [this, and_self, if_true, Option.bind_some]
 unfold xEt
 rw [decM, if_neg hr, e]
 by_cases hc : (f1 && numO a1 && f2 && numO a2 && f3 && numO a3 && f4 && numO l4) = true
 ·rw [if_pos hc, if_pos hc]
  rw [if_pos hc] at e
  have hl := xHd e
  simp only [Option.bind_some]
  rw [xH9 n (n + 1) r4 (by omega) (by omega)]
  cases decM (n + 1) r4 with
  | none => rfl
  | some x => simp
 ·rw [if_neg hc, if_neg hc]
  rfl
theorem takeN_cut {r c1 c2 : List UInt8} {c3 : Bool} {b : UInt8} (hc : Lib.cut r [b] = (c1, c2, c3)) : xC8 r b = if (c3 && numO c1) = true then some (numD c1, c2) else none := by
 unfold xC8
 rw [hc]
 simp only [Bool.and_eq_true]
theorem xDg (t : List UInt8) (b : UInt8) : (Lib.cut t [b]).1.length ≤ t.length ∧ (Lib.cut t [b]).2.1.length ≤ t.length := by
 by_cases hm : b ∈ t
 ·obtain ⟨x, y, rfl, hn⟩ := xIr b hm
  rw [xEi x y b hn]
  simp
  omega
 ·rw [cut_noB t b hm]
  simp
end Go.Proofs.YtginnonjdbpamaaGreatDoor
