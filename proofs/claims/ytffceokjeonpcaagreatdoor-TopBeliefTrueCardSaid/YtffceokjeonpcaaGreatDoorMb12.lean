/- Contracts of functions and plain laws, joined: Tm2, Tq1, Tw1, Shw, Wt1, Wt2, Tw2. -/
import Derived.Test.YtffceokjeonpcaaGreatDoorMb11
import Derived.Test.YtffceokjeonpcaaGreatDoorMb10
import Derived.Test.YtffceokjeonpcaaGreatDoorMb6
import Derived.Shelf.Small.Bits
import Derived.Shelf.Small.Wraps
import Derived.Shelf.Strconv.Itoa0
import Derived.Shelf.Strconv.Itoa1
import Derived.Shelf.LaysM
import Derived.Shelf.Strconv.Itoa2
import Derived.Shelf.Sort.Plain
import Derived.Shelf.Strconv.AppendUint10
import Derived.Shelf.Strconv.AppendInt10
import Derived.Shelf.Strconv.AppendIntPublic10
import Derived.Shelf.Slices.Equal
import Derived.Ground.Names2Prog
import Derived.Shelf.Slices.Clone
import Derived.Shelf.Slices.SearchI
import Derived.Shelf.Slices.In.SortNone
import Derived.Shelf.Slices.In.SortNone2
import Derived.Shelf.Slices.Empties
import Derived.Shelf.Slices.Empties2
import Derived.Ground.SlgnProg
import Derived.Shelf.SlicesE.Clone
import Derived.Test.YtffceokjeonpcaaGreatDoorProg
import Derived.Shelf.SlIter.Nil
import Derived.Shelf.SortM.Plain
import Derived.Shelf.SortM.SortNone
import Derived.Ground.GgzProg
import Derived.Ground.SlgmProg
import Derived.Test.YtffceokjeonpcaaGreatDoorMb5
import Derived.Lib.OthersKept
import Derived.Lib.AppendIntMem
import Derived.ArgAppend
import Derived.Test.YtffceokjeonpcaaGreatDoorMb1
set_option maxHeartbeats 12800000
set_option maxRecDepth 100000
namespace Go.Proofs.YtffceokjeonpcaaGreatDoor
def xJb (a : Atc) (s : Sta) : Prop := a.kind = 1 → (a.to_ = -1 ∨ (0 ≤ a.to_ ∧ a.to_ < (s.hol.length : Int))) ∧ (a.role = -1 ∨ (0 ≤ a.role ∧ a.role < (s.hol.length : Int)))
section
variable {c : Con} {s : Sta}
theorem ok_cla (h : c.ok = true) {k : Cla} (hk : k ∈ c.cl) : (0 ≤ k.act ∧ k.act < (c.ac.length : Int)) ∧ ((k.pause = -1 ∧ k.resume = -1) ∨ (k.pause ≠ -1 ∧ 0 ≤ k.pause ∧ k.pause < (c.ac.length : Int) ∧ 0 ≤ k.resume ∧ k.resume < (c.ac.length : Int))) := by
 have hv := xDa h hk
 unfold Con.ok at h
 simp only [Bool.and_eq_true] at h
 obtain ⟨i, hi⟩ := List.getElem?_of_mem hk
 have h1 := (c.clsOk_iff c.cl 0).1 h.2 i k hi
 unfold Con.claOk at h1
 simp only [Bool.and_eq_true] at h1
 refine ⟨xB3.1 h1.1.1.1.1.1.1.1, ?_⟩
 rcases hv.p with e | ⟨_, e1, e2⟩
 ·exact .inl e
 ·unfold Con.nat at e1 e2
  simp only [Bool.and_eq_true] at e1 e2
  have f1 := xB3.1 e1.1
  have f2 := xB3.1 e2.1
  exact .inr ⟨by omega, f1.1, f1.2, f2.1, f2.2⟩
theorem act_in (h : SOk c s) {a : Atc} (ha : a ∈ c.ac) : xJb a s := by
 intro hk
 have hl : s.hol.length = c.hold.length := h.h
 have ho := (ok_act h.vc ha).2.1
 rw [hl]
 refine ⟨?_, ho⟩
 have hc := h.vc
 unfold Con.ok Con.framed at hc
 simp only [Bool.and_eq_true, List.all_eq_true] at hc
 have h2 := hc.1.2.1.2 a ha
 unfold Con.actOk at h2
 have key : ∀ {r : Int}, c.mov r = true → 0 ≤ r ∧ r < (c.hold.length : Int) := fun h => xB3.1 h
 split at h2
 ·rw [if_pos (by simpa using hk)] at h2
  simp only [Bool.and_eq_true, Bool.or_eq_true, beq_iff_eq] at h2
  exact h2.1.2.imp id key
 ·simp only [Bool.and_eq_true, Bool.or_eq_true, beq_iff_eq] at h2
  exact h2.1.1.2.imp id key
def namL (c : Con) (s : Sta) (i : Nat) : List Bool := (List.range c.ac.length).map fun (n : Nat) => (List.zipWith (nam1 (n : Int)) (c.cl.take i) (s.marks.take i)).any id
theorem xB0 (i : Nat) : (namL c s i).length = c.ac.length := by unfold namL; simp
theorem namL_zero : namL c s 0 = List.replicate c.ac.length false := by
 unfold namL
 simp only [List.take_zero, List.zipWith_nil_left, List.any_nil]
 exact List.ext_getElem (by simp) (by simp)
theorem xGm {n i : Nat} (hn : n < c.ac.length) : (namL c s i)[n]? = some ((List.zipWith (nam1 (n : Int)) (c.cl.take i) (s.marks.take i)).any id) := by
 unfold namL
 rw [List.getElem?_map, List.getElem?_range hn]
 rfl
theorem xFh {i : Nat} {k : Cla} {x : Mk} (hk : c.cl[i]? = some k) (hx : s.marks[i]? = some x) {n : Nat} (hn : n < c.ac.length) : ∃ b, (namL c s i)[n]? = some b ∧ (namL c s (i + 1))[n]? = some (b || nam1 (n : Int) k x) := by
 refine ⟨_, xGm hn, ?_⟩
 rw [xGm hn, List.take_add_one, List.take_add_one, hk, hx, List.zipWith_append (by rw [List.length_take, List.length_take]; have := (qzM hk).1; have := (qzM hx).1; omega), List.any_append]
 simp
theorem xGo {l l' : List Bool} (hl : l.length = l'.length) (h : ∀ n, n < l.length → ∃ b, l[n]? = some b ∧ l'[n]? = some b) : l = l' := by
 refine List.ext_getElem? fun n => ?_
 by_cases hn : n < l.length
 ·obtain ⟨b, h1, h2⟩ := h n hn
  rw [h1, h2]
 ·rw [List.getElem?_eq_none (by omega), List.getElem?_eq_none (by omega)]
theorem namL_idle {i : Nat} {k : Cla} {x : Mk} (hk : c.cl[i]? = some k) (hx : s.marks[i]? = some x) (hr : x.runs = false) : namL c s (i + 1) = namL c s i := by
 refine xGo (by rw [xB0, xB0]) fun n hn => ?_
 rw [xB0] at hn
 obtain ⟨b, h1, h2⟩ := xFh hk hx hn
 refine ⟨b, ?_, h1⟩
 rw [h2]
 unfold nam1
 rw [hr]
 simp
theorem namL_act {i : Nat} {k : Cla} {x : Mk} (hk : c.cl[i]? = some k) (hx : s.marks[i]? = some x) (hr : x.runs = true) {a : Nat} (ha : k.act = (a : Int)) (hp : k.pause = -1) : namL c s (i + 1) = (namL c s i).set a true := by
 refine xGo (by rw [List.length_set, xB0, xB0]) fun n hn => ?_
 rw [xB0] at hn
 obtain ⟨b, h1, h2⟩ := xFh hk hx hn
 refine ⟨_, h2, ?_⟩
 unfold nam1
 rw [hr, ha, hp, List.getElem?_set, xB0]
 by_cases e : a = n
 ·subst e; simp [hn]
 ·rw [if_neg e, h1]
  have : ¬ ((a : Int) = (n : Int)) := by omega
  simp [this]
theorem namL_pause {i : Nat} {k : Cla} {x : Mk} (hk : c.cl[i]? = some k) (hx : s.marks[i]? = some x) (hr : x.runs = true) {a p r : Nat} (ha : k.act = (a : Int)) (hp : k.pause = (p : Int)) (hq : k.resume = (r : Int)) : namL c s (i + 1) = (((namL c s i).set a true).set p true).set r true := by
 refine xGo (by rw [List.length_set, List.length_set, List.length_set, xB0, xB0]) fun n hn => ?_
 rw [xB0] at hn
 obtain ⟨b, h1, h2⟩ := xFh hk hx hn
 refine ⟨_, h2, ?_⟩
 have e0 : ((p : Int) != -1) = true := by simp
 unfold nam1
 rw [hr, ha, hp, hq, e0, List.getElem?_set, List.getElem?_set, List.getElem?_set, List.length_set, List.length_set, xB0]
 by_cases e3 : r = n
 ·subst e3; simp [hn]
 rw [if_neg e3]
 by_cases e2 : p = n
 ·subst e2; simp [hn]
 rw [if_neg e2]
 by_cases e1 : a = n
 ·subst e1; simp [hn]
 rw [if_neg e1, h1]
 have f1 : ¬ ((a : Int) = (n : Int)) := by omega
 have f2 : ¬ ((p : Int) = (n : Int)) := by omega
 have f3 : ¬ ((r : Int) = (n : Int)) := by omega
 simp [f1, f2, f3]
theorem namL_all (h : s.marks.length = c.cl.length) {n : Nat} (hn : n < c.ac.length) : (namL c s c.cl.length)[n]? = some (xHq c s (n : Int)) := by
 rw [xGm hn, List.take_length, ← h, List.take_length]
 unfold xHq
 rfl
def hidU (c : Con) (p : See) (s : Sta) (i : Nat) : List Int := ((List.range i).filter (hidA c p s)).map fun (n : Nat) => (n : Int)
theorem hidU_succ (p : See) (i : Nat) : hidU c p s (i + 1) = if hidA c p s i = true then hidU c p s i ++ [(i : Int)] else hidU c p s i := by
 unfold hidU
 rw [List.range_succ, List.filter_append, List.map_append]
 cases h : hidA c p s i <;> simp [h]
theorem hidU_len (p : See) (i : Nat) : (hidU c p s i).length ≤ i := by
 unfold hidU
 rw [List.length_map]
 exact Nat.le_trans (List.length_filter_le _ _) (by rw [List.length_range]; exact Nat.le_refl _)
end
open Go.RowKit
def stAt (c : Con) (l : List Int) (i : Nat) : Sta := (l.take i).foldl (fun s x => s.step c x) c.first
theorem xG7 {c : Con} {l : List Int} {i : Nat} {x : Int} (h : l[i]? = some x) : stAt c l (i + 1) = (stAt c l i).step c x := by
 unfold stAt
 rw [List.take_add_one, h, qzD, List.foldl_append]
 rfl
theorem xGg {c : Con} : ∀ {l : List Int} {s : Sta} {i : Nat} {x : Int}, YtffceokjeonpcaaGreatDoor.runE c s l = 0 → l[i]? = some x → ((l.take i).foldl (fun s x => s.step c x) s).stepE c x = 0
 | [], _, _, _, _, h => by simp at h
 | y :: l, s, i, x, hE, h => by
  have hy : s.stepE c y = 0 := by
   by_cases e : s.stepE c y = 0
   ·exact e
   ·rw [YtffceokjeonpcaaGreatDoor.runE, if_neg e] at hE; exact hE
  cases i with
  | zero => rw [qzC] at h; cases h; exact hy
  | succ i =>
   rw [qzB] at h
   rw [YtffceokjeonpcaaGreatDoor.runE, if_pos hy] at hE
   rw [List.take_succ_cons, List.foldl_cons]
   exact xGg hE h
theorem xCz {c : Con} {l : List Int} (h : c.runE l = 0) : c.ok = true ∧ l.length ≤ 4000 ∧ YtffceokjeonpcaaGreatDoor.runE c c.first l = 0 := by
 unfold Con.runE at h
 by_cases e : c.startE ≠ 0
 ·rw [if_pos e] at h; exact absurd h e
 ·rw [if_neg e] at h
  by_cases e2 : 4000 < l.length
  ·rw [if_pos e2] at h; exact absurd h (by decide)
  ·rw [if_neg e2] at h
   refine ⟨?_, by omega, h⟩
   unfold Con.startE at e
   cases hok : c.ok with
   | true => rfl
   | false => rw [hok] at e; exact absurd (show (1 : Int) ≠ 0 by decide) e
abbrev momA (x : Int) (s : Sta) (q : Qm) : Array Value := #[.int .i64 x, .int .i64 s.day, .slice q.h s.hol.length q.hc, .slice q.u s.used.length q.uc, .slice q.m s.marks.length q.mc]
theorem prun_any (c : Con) (m : Cm) (A : Option Addr) (n cap : Nat) (w : World) : Calls Tryz.prog 51 #[.agg (coA c m), .slice A n cap] w fun e w' => ∃ ba bl, e = .returned (.func (.func 74) #[] #[.pointer (some ⟨ba, 0, none⟩), .pointer (some ⟨bl, 0, none⟩)]) ∧
  Blk w' ba 27 (coA c m) ∧ Blk w' bl 22 #[.slice A n cap] ∧ Below w.heap.size w w' ∧ w.heap.size ≤ ba ∧ w.heap.size ≤ bl := by
 go_enter Tryz.func51, Tryz.ntmps51
 go_wp2
 go_ret
 refine ⟨_, _, rfl, ?_, ?_, ?_, Nat.le_refl _, ?_⟩
 ·exact (xA0 (by simp)).alloc _
 ·exact xA0 (by simp)
 ·(repeat (first | (with_reducible first | assumption | exact Below.refl _ _ | refine xAk ?_ _ | refine Below.drew ?_ | refine xAc ?_ _ | refine Below.setCell ?_ (by first | omega | (simp; done) | (simp; omega)) _ | refine xAa ?_ (by assumption)) | (refine xAa (a := World.drew _) ?_ (by with_reducible assumption))))
 ·simp
structure PJ (w : World) (c : Con) (m : Cm) (l : List Int) (A : Option Addr) (cap ba bl n₀ : Nat) (p : World → Nat → Prop) (J : Nat → World → Prop) : Prop where
 s : ∀ i W, J i W → n₀ ≤ W.heap.size
 j : ∀ i W W', J i W → Kept W W' (fun x => n₀ ≤ x ∧ ¬ p W x) → J i W'
 b : ∀ i W, J i W → Blk W ba 27 (coA c m) ∧ Blk W bl 22 #[.slice A l.length cap]
 e : ∀ i W, J i W → Below w.heap.size w W
 n : w.heap.size ≤ n₀
 c : Cont w c m
 a : Seg w w.heap.size 1 eI A l
 pa : ∀ i W x, J i W → p W x → x < W.heap.size
 pb : ∀ i W W' x, J i W → Kept W W' (fun x => n₀ ≤ x ∧ ¬ p W x) → p W' x → p W x
def YP (c : Con) (l : List Int) (n lp n₀ : Nat) (p : World → Nat → Prop) (J : Nat → World → Prop) : Prop :=
 ∀ (i : Nat) (W : World) (x : Int) (q : Qm), l[i]? = some x → J i W → Stq n₀ W (stAt c l i) q →
  YieldAt Fence.wide (n - 1) Tryz.prog lp #[.agg (momA x (stAt c l i) q), .int .i64 0] W fun e W' => e = .returned (.bool true) ∧ J (i + 1) W' ∧ Kept W W' (p W) ∧ ∀ x, p W' x → p W x ∨ W.heap.size ≤ x
theorem Stq.kept {B : Nat} {w w' : World} {s : Sta} {q : Qm} {p : Nat → Prop} (h : Stq B w s q) (hk : Kept w w' p) (hp : SOff (fun x => ¬ p x) q) : Stq B w' s q := by
 have key : ∀ {a : Addr} {t : TypeId} {cs : Array Value}, ¬ p a.block → Blk w a.block t cs → w'.heap[a.block]? = w.heap[a.block]? := fun h1 h2 => hk.k _ h2.lt h1
 refine ⟨⟨?_, ?_, ?_, h.m.nh, h.m.nu, h.m.nm, h.m.ch, h.m.cu, h.m.cm⟩, h.o, ⟨fun a e => ?_, fun a e => ?_, fun a e => ?_⟩⟩
 ·exact xDo h.m.h hk.size fun a e => by obtain ⟨cs, h2⟩ := h.t.h a e; exact key (hp.h a e) h2
 ·exact xDo h.m.u hk.size fun a e => by obtain ⟨cs, h2⟩ := h.t.u a e; exact key (hp.u a e) h2
 ·exact xDo h.m.m hk.size fun a e => by obtain ⟨cs, h2⟩ := h.t.m a e; exact key (hp.m a e) h2
 ·obtain ⟨cs, h2⟩ := h.t.h a e; exact ⟨cs, (key (hp.h a e) h2).trans h2⟩
 ·obtain ⟨cs, h2⟩ := h.t.u a e; exact ⟨cs, (key (hp.u a e) h2).trans h2⟩
 ·obtain ⟨cs, h2⟩ := h.t.m a e; exact ⟨cs, (key (hp.m a e) h2).trans h2⟩
theorem SOff.imp {p p' : Nat → Prop} {w : World} {q : Qm} (h : SOff p q) (t : STy w q) (hp : ∀ x, x < w.heap.size → p x → p' x) : SOff p' q :=
 ⟨fun a e => by obtain ⟨cs, h2⟩ := t.h a e; exact hp _ h2.lt (h.h a e), fun a e => by obtain ⟨cs, h2⟩ := t.u a e; exact hp _ h2.lt (h.u a e), fun a e => by obtain ⟨cs, h2⟩ := t.m a e; exact hp _ h2.lt (h.m a e)⟩
theorem prun1_in (n lp n₀ : Nat) (hn : 1 ≤ n) (w : World) (c : Con) (m : Cm) (l : List Int) (A : Option Addr) (cap ba bl : Nat) (hE : c.runE l = 0) (p : World → Nat → Prop) (J : Nat → World → Prop) (hJ : PJ w c m l A cap ba bl n₀ p J) (hY : YP c l n lp n₀ p J) (W : World) (h0 : J 0 W) :
  CallsIn Fence.wide n Tryz.prog 74 #[.func (.yield lp) #[] #[], .pointer (some ⟨ba, 0, none⟩), .pointer (some ⟨bl, 0, none⟩)] W fun e W' => (∃ v, e = .returned v) ∧ J l.length W' := by
 obtain ⟨hok, hl, hE1⟩ := xCz hE
 have HJ := qzL hJ
 have HY := qzL hY
 have HE := qzL hE1
 have H0 := qzL h0
 have hst : Hid (c.startE = 0 ∧ c.startS = c.first) := by unfold Hid Con.startE Con.startS; rw [hok]; exact ⟨rfl, rfl⟩
 obtain ⟨ga, gl⟩ := hJ.b 0 W h0
 have lW := hJ.s 0 W h0
 have HST : Hid (Calls Tryz.prog 21 #[.agg (coA c m)] W fun e w' => RetS W c.first 0 e w') := by
  have h := xCm c m W (hJ.c.then_ (hJ.e 0 W h0))
  rw [hst.out.1, hst.out.2] at h
  exact h
 have GA := qzL ga
 have GL := qzL gl
 clear hJ hY hok h0 hE hE1 ga gl hst
 refine callsIn_of_wp Tryz.func74 rfl trivial ?_ rfl
 simp only [Tryz.ntmps74, List.size_toArray, List.length_cons, List.length_nil, Nat.reduceAdd, Nat.reduceSub, Array.replicate_succ, Array.replicate_zero, List.push_toArray, List.append_toArray, qzF, qzE]
 refine wpIn_wide.2 ?_
 go_upto_region 1 with (first | (refine xAf (by rfl) 27 _ rfl ba rfl 27 _ GA.out ⟨_, Tryz.underlying27⟩ (by kernel_rfl) ?_; simp only [Act.put, qzG, qzH, qzI]) | (go_at_call 21; (with_reducible refine HST.out.mono ?_); rintro e w1 ⟨⟨q0, rfl, hs0, ho0, ht0⟩, hb1⟩) | (refine xAh rfl 47 _ _ rfl w1.heap.size 47 [] zS.toList [] (stA c.first q0).toList rfl rfl (Blk.new _ _ _) rfl (by kernel_rfl) (by simp [Value.oneCell']) ?_; intro w2 g2 u2))
 obtain ⟨bs, ebs⟩ : ∃ b, w1.heap.size = b := ⟨_, rfl⟩
 have h12 : Below W.heap.size W w2 := (xAc hb1 _).trans (u2.b _ hb1.size)
 have lX1 := hb1.size
 have st2 : Hid (Stq n₀ w2 (stAt c l 0) q0) := ((Stq.then_ (w' := w1.alloc (.cells zS 47)) ⟨hs0, ho0.more lW, ht0⟩ (wa1 _ _)).updT u2 (Blk.new _ _ _) (by decide))
 have gs2 := qzL (show Blk w2 bs 47 (stA (stAt c l 0) q0) by rw [← ebs]; exact g2)
 have h02 := qzL (HJ.out.j 0 W w2 H0.out (Kept.of_below h12))
 have lbs : Hid (n₀ ≤ bs) := by unfold Hid; omega
 have np2 : ∀ x, W.heap.size ≤ x → ¬ p w2 x := fun x hx h => by have := HJ.out.pa 0 W x H0.out (HJ.out.pb 0 W w2 x H0.out (Kept.of_below h12) h); omega
 have nb2 : Hid (¬ p w2 bs) := np2 bs (by omega)
 have nq2 : Hid (SOff (fun x => ¬ p w2 x) q0) := ⟨fun a e => np2 _ (ho0.h a e), fun a e => np2 _ (ho0.u a e), fun a e => np2 _ (ho0.m a e)⟩
 rw [ebs]
 clear np2 GA HST hb1 hs0 ho0 ht0 g2 u2 h12 lX1 ebs H0 lW
 have k0 : w2.cell? ⟨bl, 0, none⟩ = some (.slice A l.length cap) := (HJ.out.b _ _ h02.out).2.cell 0
 clear GL
 go_upto_region 4 with (fail)
 clear k0
 go_loopw [23] (fun y WR => ∃ (i : Nat) (q : Qm), y = .int .i64 i ∧ i ≤ l.length ∧ Hid (J i WR) ∧ Hid (Blk WR bs 47 (stA (stAt c l i) q)) ∧ Hid (Stq n₀ WR (stAt c l i) q) ∧ Hid (¬ p WR bs)) (fun y _ => 2000000 - (intOf y).toNat)
 case atStart => exact ⟨0, _, rfl, by omega, h02, gs2, st2, nb2⟩
 case round =>
  clear h02 gs2 st2 nb2 nq2
  obtain ⟨i, q, rfl, hi, hJi, hG, hS, hN⟩ := hrel
  by_cases hlt : i < l.length
  case neg =>
   obtain rfl : i = l.length := by omega
   have tl : decide (((l.length : Nat) : Int) < ((l.length : Nat) : Int)) = false := qzN (by omega)
   go_wp2
   go_end0
   exact ⟨⟨_, rfl⟩, hJi.out⟩
  have tl : decide ((i : Int) < (l.length : Int)) = true := qzO (by omega)
  obtain ⟨x, hx⟩ : ∃ x, l[i]? = some x := ⟨_, qzJ hlt⟩
  have hBw := HJ.out.e _ _ hJi.out
  obtain ⟨b0, o0, eA0, hb0, hc0⟩ := xAv ((HJ.out.a.below hBw).more hBw.size) hx
  have hix := fun W => xAp (t := 22) (size := 1) (cap := cap) eA0 hlt (by kernel_rfl) (fun W => by kernel_rfl) W
  have d0 : wr.cell? ⟨b0, o0 + i, none⟩ = some (.int .i64 x) := by simpa using hc0 0 _ rfl
  simp only [Nat.mul_one] at hix
  have hEx : (stAt c l i).stepE c x = 0 := xGg HE.out hx
  obtain ⟨S1, hS1⟩ : ∃ s, (stAt c l i).step c x = s := ⟨_, rfl⟩
  have HSX : Hid (Calls Tryz.prog 22 #[.agg (coA c m), .agg (stA (stAt c l i) q), .int .i64 x] wr fun e w' => RetS wr S1 0 e w') := by
   have h := xD9 c m (stAt c l i) q x wr (HJ.out.c.then_ hBw) hS.out.m
   rw [hEx, Sta.stepS, if_pos hEx, hS1] at h
   exact h
  have HS1 : Hid (S1 = stAt c l (i + 1)) := by unfold Hid; rw [xG7 hx, hS1]
  have HX := qzL hx
  have lwr := HJ.out.s _ _ hJi.out
  obtain ⟨gaR, _⟩ := HJ.out.b _ _ hJi.out
  have gsR := hG.out
  clear hc0 eA0 hx hBw hEx hS1
  go_upto_region 7 with (first | (refine xAf (by rfl) 27 _ rfl ba rfl 27 _ gaR ⟨_, Tryz.underlying27⟩ (by kernel_rfl) ?_; simp only [Act.put, qzG, qzH, qzI]) | (refine xAf (by rfl) 47 _ rfl bs rfl 47 _ gsR ⟨_, Tryz.underlying47⟩ (by kernel_rfl) ?_; simp only [Act.put, qzG, qzH, qzI]) | (go_at_call 22; (with_reducible refine HSX.out.mono ?_); rintro e w1 ⟨⟨q1, rfl, hs1, ho1, ht1⟩, hb1⟩) | (refine xAh rfl 47 _ _ rfl w1.heap.size 47 [] zS.toList [] (stA S1 q1).toList rfl rfl (Blk.new _ _ _) rfl (by kernel_rfl) (by simp [Value.oneCell']) ?_; intro we ge ue))
  have hbe : Below wr.heap.size wr we := (xAc hb1 _).trans (ue.b _ hb1.size)
  have HJe := qzL (HJ.out.j i wr we hJi.out (Kept.of_below hbe))
  have HGe := qzL (hG.out.then_ hbe)
  have HSe := qzL (hS.out.then_ hbe)
  have st1 : Hid (Stq n₀ we S1 q1) := ((Stq.then_ (w' := w1.alloc (.cells zS 47)) ⟨hs1, ho1.more lwr, ht1⟩ (wa1 _ _)).updT ue (Blk.new _ _ _) (by decide))
  obtain ⟨bn, ebn⟩ : ∃ b, w1.heap.size = b := ⟨_, rfl⟩
  have HGn : Hid (Blk we bn 47 (stA S1 q1)) := by unfold Hid; rw [← ebn]; exact ge
  have npe : ∀ x, p we x → p wr x := fun x h => HJ.out.pb i wr we x hJi.out (Kept.of_below hbe) h
  have npn : ∀ x, wr.heap.size ≤ x → ¬ p we x := fun x hx h => by have := HJ.out.pa i wr x hJi.out (npe x h); omega
  have hnb : Hid (¬ p we bs ∧ ¬ p we bn) := ⟨fun h => hN.out (npe bs h), npn bn (by have := hb1.size; omega)⟩
  have hnq : Hid (SOff (fun x => ¬ p we x) q1) := ⟨fun a e => npn _ (ho1.h a e), fun a e => npn _ (ho1.u a e), fun a e => npn _ (ho1.m a e)⟩
  rw [ebn]
  have s0 : we.cell? ⟨bs, 0, none⟩ = some (.int .i64 (stAt c l i).day) := HGe.out.cell 0
  have s1 : we.cell? ⟨bs, 1, none⟩ = some (.slice q.h (stAt c l i).hol.length q.hc) := HGe.out.cell 1
  have s2 : we.cell? ⟨bs, 2, none⟩ = some (.slice q.u (stAt c l i).used.length q.uc) := HGe.out.cell 2
  have s3 : we.cell? ⟨bs, 3, none⟩ = some (.slice q.m (stAt c l i).marks.length q.mc) := HGe.out.cell 3
  obtain ⟨fn, tmps, asg, bd, hy, hRR⟩ := HY.out i we x q HX.out HJe.out HSe.out
  have HRR := qzL hRR
  clear npe npn hN hRR hbe ge ue hb1 hs1 ho1 ht1 ebn gaR gsR lwr hix d0 hb0 hJi hG hS HSX HSe HJe
  refine (wpIn_wide (n := n)).1 ?_
  gi_wp2
  refine HRR.out.mono ?_
  rintro e W4 ⟨rfl, hJ4, hK4, hN4⟩
  have HJ4 := qzL hJ4
  have gn4 := HGn.out.kept hK4 hnb.out.2
  have gs4 := HGe.out.kept hK4 hnb.out.1
  have st4 := qzL (st1.out.kept hK4 hnq.out)
  have hnb4 : Hid (¬ p W4 bs) := fun h => by rcases hN4 _ h with h | h; exact hnb.out.1 h; have := HGe.out.lt; omega
  clear hN4 hnb hnq hJ4 hK4 hy HRR s0 s1 s2 s3 HGn HGe st1
  gi_wp2
  go_upto_region 9 with (first | (refine xAf (by rfl) 47 _ rfl bn rfl 47 _ gn4 ⟨_, Tryz.underlying47⟩ (by kernel_rfl) ?_; simp only [Act.put, qzG, qzH, qzI]) | (refine xAh rfl 47 _ _ rfl bs 47 [] (stA (stAt c l i) q).toList [] (stA S1 q1).toList rfl rfl gs4 rfl (by kernel_rfl) (by simp [Value.oneCell']) ?_; intro w5 g5 u5))
  have HJ5 := qzL (HJ.out.j _ W4 w5 HJ4.out (Kept.of_upd u5 ⟨lbs.out, hnb4.out⟩))
  have HG5 : Hid (Blk w5 bs 47 (stA (stAt c l (i + 1)) q1)) := by unfold Hid; rw [← HS1.out]; exact g5
  have HS5 : Hid (Stq n₀ w5 (stAt c l (i + 1)) q1) := by unfold Hid; rw [← HS1.out]; exact st4.out.updT u5 gs4 (by decide)
  have hnb5 : Hid (¬ p w5 bs) := fun h => hnb4.out (HJ.out.pb _ W4 w5 bs HJ4.out (Kept.of_upd u5 ⟨lbs.out, hnb4.out⟩) h)
  clear hnb4 g5 u5 gn4 gs4 st4 HJ4
  go_wp2
  go_roundw
  case rel => exact ⟨i + 1, _, by simp, by omega, HJ5, HG5, HS5, hnb5⟩
  case measure => simp [intOf]; omega
open Go.Maps Go.Sort Go.WideMaps
def Far (p : Nat → Prop) (W : World) (x : SQ) : Prop := ∀ W', Kept W W' p → Stm W' x.1 x.2
section
variable {p : Nat → Prop} {W W' : World} {x : SQ}
theorem Far.now (h : Far p W x) : Stm W x.1 x.2 := h W (Kept.refl _ _)
theorem Far.kept (h : Far p W x) (hk : Kept W W' p) : Far p W' x := fun W2 h2 => h W2 (hk.trans h2)
theorem Far.then_ (h : Far p W x) (hb : Below W.heap.size W W') : Far p W' x := h.kept (Kept.of_below hb)
theorem Far.old {W0 : World} (h : Stm W0 x.1 x.2) (hp : ∀ b, p b → W0.heap.size ≤ b) (hb : Below W0.heap.size W0 W) : Far p W x := fun _W' hk => h.then_ (hb.trans (hk.b _ hp hb.size))
theorem Far.of {B : Nat} (h : Stq B W x.1 x.2) (hp : ∀ b, p b → b < B) : Far p W x := fun W' hk =>
 (h.kept hk ⟨fun a e hpa => (by have := h.o.h a e; have := hp _ hpa; omega), fun a e hpa => (by have := h.o.u a e; have := hp _ hpa; omega), fun a e hpa => (by have := h.o.m a e; have := hp _ hpa; omega)⟩).m
end
theorem MapS.keys_ {P : Program} {k : TypeId} {w : World} {b n : Nat} {g : List UInt8 → Option Value} (h : MapS P k w b n g) (hk : P.underlying k = some .string) : ∃ D : DataW Value, w.ownsMap P k R0 b n D ∧ (strKeys D).Nodup ∧ Maps.size D = (strKeys D).length ∧ (∀ s, s ∈ strKeys D → s.length ≤ maxLen) ∧ ∀ s, s ∈ strKeys D ↔ (g s).isSome = true := by
 obtain ⟨D, h1, h2, h3, h4, h5⟩ := h.keys hk
 refine ⟨D, h1, h2, ?_, h4, h5⟩
 obtain ⟨es, rfl, _⟩ := h1.keysOf
 exact (List.length_map ..).symm
theorem MapS.len {P : Program} {k t e : TypeId} {w : World} {b n : Nat} {g : List UInt8 → Option Value} {rows : List SQ} (h : MapS P k w b n g) (hk : P.underlying k = some .string) (ht : P.underlying t = some (.map k e)) (hT : Tab rows g) (ty : TypeId) : (Builtin.len_ #[t] ty #[.map (some b)]).run P w = .ok (.int .i64 (rows.length : Nat)) w := by
 obtain ⟨D, h1, h2, h3, h4, h5⟩ := h.keys_ hk
 rw [h1.len ht ty, h3, hT.count h2 h5]
theorem xGz {P : Program} (w : World) {ops : Array Oper} {rest : List Oper} {o : Oper} {a : Act} {Q : Exit → Act → World → Prop} (hg : o.guard = none) (m x : Operand) (t k : TypeId) (hop : o.op = Op.call { callee := Callee.builtin Builtin.delete, args := #[m, x], argTypes := #[t, k] })
  (e : TypeId) (hk : P.underlying k = some .string) (ht : P.underlying t = some (.map k e)) (b n : Nat) (g : List UInt8 → Option Value)
  (hm : a.eval m = .map (some b)) (h : MapS P k w b n g) (s : ByteArray) (hx : a.eval x = .string s) (hs : s.size ≤ maxLen)
  (hK : ∀ w', MapS P k w' b n (fun x => if x = s.data.toList then none else g x) → Upd w w' b → wpList P ops Q rest (a.put o.dst (.tuple #[])) w') :
  wpList P ops Q (o :: rest) a w := by
 refine wpList_plain hg fun K' hK' => ?_
 obtain ⟨w', hrun, r1, r2⟩ := h.drop hk ht hs o.type
 unfold Oper.wp
 simp [execOp, hop, resolve, invoke, builtin, hm, hx, hrun, Result.andThen]
 exact hK' _ _ (hK w' r1 r2)
theorem rowC {ops : Array Oper} {Q : Exit → Act → World → Prop} {a : Act} {w : World} {rest : List Oper} {o : Oper} {c : Con} {m : Cm} (hw : Region.wanted o (yielded ops a.tmps) = true) (x : Operand) (ho : o.op = .load 27 x) (g : Nat) (hx : a.eval x = .pointer (some ⟨g, 0, none⟩)) (hg : Blk w g 27 (coA c m)) (h : wpList Tryz.prog ops Q rest (a.put o.dst (.agg (coA c m))) w) : wpList Tryz.prog ops Q (o :: rest) a w :=
 xAf hw 27 x ho g hx 27 _ hg ⟨_, Tryz.underlying27⟩ (by kernel_rfl) h
theorem Blk.ne_map {P : Program} {k t : TypeId} {w : World} {a b n : Nat} {cs : Array Value} {g : List UInt8 → Option Value} (h : Blk w a t cs) (m : MapS P k w b n g) : a ≠ b := by
 rintro rfl
 obtain ⟨D, ⟨es, clock, hb, _⟩, _⟩ := m
 have e := h.symm.trans hb
 injection e with e
 cases e
abbrev pQ (P0 : Nat → Prop) (bF bN : Nat) : Nat → Prop := fun b => (b = bF ∨ b = bN) ∨ P0 b
theorem Far.sub {p q : Nat → Prop} {W : World} {x : SQ} (h : Far p W x) (hq : ∀ b, q b → p b) : Far q W x := fun W' hk => h W' (hk.weak hq)
theorem Kept.pQ {P0 : Nat → Prop} {bF bN : Nat} {W W' : World} (h : Kept W W' (fun b => b = bF ∨ b = bN)) : Kept W W' (pQ P0 bF bN) := h.weak fun _ hb => .inl hb
theorem Far.old2 {P0 : Nat → Prop} {bF bN : Nat} {W0 W : World} {x : SQ} (h : Far P0 W0 x) (lo : W0.heap.size ≤ bF ∧ W0.heap.size ≤ bN) (hb : Below W0.heap.size W0 W) : Far (pQ P0 bF bN) W x := fun W' hk =>
 h W' ⟨fun B hB hs => (hb.mono hs).trans (hk.b B (fun b h1 => by rcases h1 with (e | e) | e; omega; omega; exact hB b e) (Nat.le_trans hs hb.size)), fun b h1 h2 => (hk.k b (Nat.lt_of_lt_of_le h1 hb.size) (fun e => by rcases e with (e | e) | e; omega; omega; exact h2 e)).trans (hb.block b h1)⟩
structure Two (P0 : Nat → Prop) (bF bN cF cN : Nat) (F N : List SQ) (W : World) : Prop where
 cf : Blk W cF 114 #[.map (some bF)]
 cn : Blk W cN 114 #[.map (some bN)]
 f : ∃ g, MapS Tryz.prog 9 W bF F.length g ∧ Tab F g
 n : ∃ g, MapS Tryz.prog 9 W bN F.length g ∧ Tab N g
 ne : bF ≠ bN
 far : ∀ x ∈ F, Far (pQ P0 bF bN) W x
 sub : ∀ x ∈ N, x ∈ F
section
variable {P0 : Nat → Prop} {bF bN cF cN : Nat} {F N : List SQ} {W W' : World}
theorem Two.then_ (h : Two P0 bF bN cF cN F N W) (hb : Below W.heap.size W W') : Two P0 bF bN cF cN F N W' := by
 obtain ⟨g, f1, f2⟩ := h.f
 obtain ⟨g', n1, n2⟩ := h.n
 exact ⟨h.cf.then_ hb, h.cn.then_ hb, ⟨g, f1.then_ hb, f2⟩, ⟨g', n1.then_ hb, n2⟩, h.ne, fun x hx => (h.far x hx).then_ hb, h.sub⟩
theorem Two.lt (h : Two P0 bF bN cF cN F N W) : bF < W.heap.size ∧ bN < W.heap.size ∧ cF < W.heap.size ∧ cN < W.heap.size := by
 obtain ⟨g, f1, f2⟩ := h.f
 obtain ⟨g', n1, n2⟩ := h.n
 exact ⟨f1.lt, n1.lt, h.cf.lt, h.cn.lt⟩
end
def xFr (F : List SQ) (x : SQ) : Bool := F.any fun y => decide (txt y = txt x)
def xB1 (F N : List SQ) (x : SQ) : List SQ := if xFr F x = true then N else N ++ [x]
theorem Tab.old {F : List SQ} {g : List UInt8 → Option Value} (h : Tab F g) (x : SQ) : (g (txt x)).isSome = xFr F x := by
 have e : (g (txt x)).isSome = true ↔ xFr F x = true := by
  rw [h.some_]
  unfold xFr
  simp only [List.any_eq_true, decide_eq_true_eq]
 cases h1 : (g (txt x)).isSome <;> cases h2 : xFr F x <;> simp_all
theorem new_all {F : List SQ} {x : SQ} (h : xFr F x = false) : ∀ y ∈ F, txt y ≠ txt x := fun y hy e => by
 unfold xFr at h
 have := List.any_eq_false.1 h y hy
 simp [e] at this
end Go.Proofs.YtffceokjeonpcaaGreatDoor
namespace Go.Proofs
open Go.Shelf
def Tryz.lays128_ren : Go.Shelf.Ren := ⟨fun | 128 => 128 | n => n, fun | 51 => 178 | 3 => 3 | 4 => 4 | 46 => 155 | 5 => 5 | 9 => 9 | n => n, fun | n => n⟩
def Tryz.lays125_ren : Go.Shelf.Ren := ⟨fun | 125 => 114 | 128 => 128 | 129 => 129 | n => n, fun | 46 => 155 | 3 => 3 | 51 => 178 | 53 => 166 | 4 => 4 | 5 => 5 | 9 => 9 | n => n, fun | n => n⟩
def Tryz.lays215_ren : Go.Shelf.Ren := ⟨fun | 215 => 111 | n => n, fun | 3 => 3 | 4 => 4 | n => n, fun | n => n⟩
def Tryz.lays129_ren : Go.Shelf.Ren := ⟨fun | 129 => 129 | n => n, fun | 53 => 166 | 3 => 3 | 4 => 4 | 46 => 155 | 5 => 5 | 9 => 9 | n => n, fun | n => n⟩
def Tryz.lays317_ren : Go.Shelf.Ren := ⟨fun | 317 => 142 | n => n, fun | 3 => 3 | 46 => 155 | n => n, fun | n => n⟩
def Tryz.lays318_ren : Go.Shelf.Ren := ⟨fun | 318 => 143 | n => n, fun | 3 => 3 | 4 => 4 | n => n, fun | n => n⟩
def Tryz.lays283_ren : Go.Shelf.Ren := ⟨fun | 283 => 137 | n => n, fun | 3 => 3 | 9 => 9 | 4 => 4 | n => n, fun | n => n⟩
def Tryz.laysM284_ren : Go.Shelf.Ren := ⟨fun | 284 => 138 | 129 => 129 | 317 => 142 | 318 => 143 | n => n, fun | 53 => 166 | 3 => 3 | 212 => 197 | 0 => 0 | 4 => 4 | 46 => 155 | 5 => 5 | 9 => 9 | n => n, fun | 17 => 0 | n => n⟩
def Tryz.lays285_ren : Go.Shelf.Ren := ⟨fun | 285 => 139 | n => n, fun | 37 => 112 | 53 => 166 | 3 => 3 | 4 => 4 | 51 => 178 | 9 => 9 | 5 => 5 | 0 => 0 | n => n, fun | n => n⟩
def Tryz.lays190_ren : Go.Shelf.Ren := ⟨fun | 190 => 102 | 125 => 114 | 258 => 113 | 128 => 128 | 129 => 129 | 302 => 119 | 303 => 120 | 304 => 121 | 305 => 122 | 306 => 123 | 307 => 124 | 308 => 125 | 309 => 126 | 310 => 127 | 333 => 131 | 329 => 132 | 330 => 133 | 334 => 134 | 335 => 135 | 336 => 136 | 344 => 141 | n => n, fun | 31 => 133 | 9 => 9 | 3 => 3 | 46 => 155 | 0 => 0 | 51 => 178 | 53 => 166 | 4 => 4 | 183 => 171 | 182 => 170 | 131 => 125 | 5 => 5 | 218 => 182 | 222 => 186 | 228 => 193 | 229 => 194 | n => n, fun | n => n⟩
theorem Tryz.lays190 : Go.Proofs.Lays.n190 Tryz.prog Tryz.lays190_ren := {
 mixed := by kernel_rfl
 f125 := Tryz.func114.trans (congrArg some (by kernel_rfl))
 f128 := Tryz.func128.trans (congrArg some (by kernel_rfl))
 f129 := Tryz.func129.trans (congrArg some (by kernel_rfl))
 f190 := Tryz.func102.trans (congrArg some (by kernel_rfl))
 f258 := Tryz.func113.trans (congrArg some (by kernel_rfl))
 f302 := Tryz.func119.trans (congrArg some (by kernel_rfl))
 f303 := Tryz.func120.trans (congrArg some (by kernel_rfl))
 f304 := Tryz.func121.trans (congrArg some (by kernel_rfl))
 f305 := Tryz.func122.trans (congrArg some (by kernel_rfl))
 f306 := Tryz.func123.trans (congrArg some (by kernel_rfl))
 f307 := Tryz.func124.trans (congrArg some (by kernel_rfl))
 f308 := Tryz.func125.trans (congrArg some (by kernel_rfl))
 f309 := Tryz.func126.trans (congrArg some (by kernel_rfl))
 f310 := Tryz.func127.trans (congrArg some (by kernel_rfl))
 f329 := Tryz.func132.trans (congrArg some (by kernel_rfl))
 f330 := Tryz.func133.trans (congrArg some (by kernel_rfl))
 f333 := Tryz.func131.trans (congrArg some (by kernel_rfl))
 f334 := Tryz.func134.trans (congrArg some (by kernel_rfl))
 f335 := Tryz.func135.trans (congrArg some (by kernel_rfl))
 f336 := Tryz.func136.trans (congrArg some (by kernel_rfl))
 f344 := Tryz.func141.trans (congrArg some (by kernel_rfl))
 t0 := Tryz.underlying0
 a0 := Tryz.isAgg0
 z0 := Tryz.sizeOf0
 v0 := Tryz.zeroValue0
 t3 := Tryz.underlying3
 a3 := Tryz.isAgg3
 z3 := Tryz.sizeOf3
 v3 := Tryz.zeroValue3
 t4 := Tryz.underlying4
 a4 := Tryz.isAgg4
 z4 := Tryz.sizeOf4
 v4 := Tryz.zeroValue4
 t5 := Tryz.underlying5
 a5 := Tryz.isAgg5
 z5 := Tryz.sizeOf5
 v5 := Tryz.zeroValue5
 t9 := Tryz.underlying9
 a9 := Tryz.isAgg9
 z9 := Tryz.sizeOf9
 v9 := Tryz.zeroValue9
 t31 := Tryz.underlying133
 a31 := Tryz.isAgg133
 z31 := Tryz.sizeOf133
 v31 := Tryz.zeroValue133
 t46 := Tryz.underlying155
 a46 := Tryz.isAgg155
 z46 := Tryz.sizeOf155
 v46 := Tryz.zeroValue155
 t51 := Tryz.underlying178
 a51 := Tryz.isAgg178
 z51 := Tryz.sizeOf178
 v51 := Tryz.zeroValue178
 t53 := Tryz.underlying166
 a53 := Tryz.isAgg166
 z53 := Tryz.sizeOf166
 v53 := Tryz.zeroValue166
 t131 := Tryz.underlying125
 a131 := Tryz.isAgg125
 z131 := Tryz.sizeOf125
 v131 := Tryz.zeroValue125
 t182 := Tryz.underlying170
 a182 := Tryz.isAgg170
 z182 := Tryz.sizeOf170
 v182 := Tryz.zeroValue170
 t183 := Tryz.underlying171
 a183 := Tryz.isAgg171
 z183 := Tryz.sizeOf171
 v183 := Tryz.zeroValue171
 t218 := Tryz.underlying182
 a218 := Tryz.isAgg182
 z218 := Tryz.sizeOf182
 v218 := Tryz.zeroValue182
 t222 := Tryz.underlying186
 a222 := Tryz.isAgg186
 z222 := Tryz.sizeOf186
 v222 := Tryz.zeroValue186
 t228 := Tryz.underlying193
 a228 := Tryz.isAgg193
 z228 := Tryz.sizeOf193
 v228 := Tryz.zeroValue193
 t229 := Tryz.underlying194
 a229 := Tryz.isAgg194
 z229 := Tryz.sizeOf194
 v229 := Tryz.zeroValue194 }
open Go.Sort Go.RowKit in
theorem Tryz.slices_Sort_string (blk off cap : Nat) (ss : List (List UInt8)) (w : World) (hH : Holds encStr w blk off ss.toArray) (hblk : blk < w.heap.size) (hsz : ss.length < 4611686018427387904) :
  Calls Tryz.prog 102 #[.slice (some ⟨blk, off, none⟩) ss.length cap] w fun e w' =>
   e = .returned (.tuple #[]) ∧ ∃ n os, w' = grow (putRow encStr (Sort.ahead w n) blk off (ss.mergeSort fun x y => decide (x ≤ y)).toArray) os := Any.slices_Sort_string Tryz.lays190 blk off cap ss w hH hblk hsz
def Tryz.lays192_ren : Go.Shelf.Ren := ⟨fun | 192 => 80 | 190 => 102 | 125 => 114 | 258 => 113 | 128 => 128 | 129 => 129 | 302 => 119 | 303 => 120 | 304 => 121 | 305 => 122 | 306 => 123 | 307 => 124 | 308 => 125 | 309 => 126 | 310 => 127 | 333 => 131 | 329 => 132 | 330 => 133 | 334 => 134 | 335 => 135 | 336 => 136 | 344 => 141 | n => n, fun | 31 => 133 | 0 => 0 | 9 => 9 | 3 => 3 | 46 => 155 | 51 => 178 | 53 => 166 | 4 => 4 | 183 => 171 | 182 => 170 | 131 => 125 | 5 => 5 | 218 => 182 | 222 => 186 | 228 => 193 | 229 => 194 | n => n, fun | n => n⟩
def Tryz.laysM288_ren : Go.Shelf.Ren := ⟨fun | 288 => 130 | 283 => 137 | 284 => 138 | 285 => 139 | 286 => 140 | 129 => 129 | 317 => 142 | 318 => 143 | 319 => 144 | 320 => 145 | 337 => 146 | 338 => 147 | n => n, fun | 37 => 112 | 53 => 166 | 3 => 3 | 4 => 4 | 9 => 9 | 171 => 189 | 0 => 0 | 173 => 191 | 212 => 197 | 51 => 178 | 5 => 5 | 20 => 20 | 213 => 198 | 46 => 155 | 232 => 199 | 233 => 200 | n => n, fun | 17 => 0 | 18 => 1 | 19 => 2 | n => n⟩
def Tryz.laysM249_ren : Go.Shelf.Ren := ⟨fun | 249 => 115 | 288 => 130 | 283 => 137 | 284 => 138 | 285 => 139 | 286 => 140 | 129 => 129 | 317 => 142 | 318 => 143 | 319 => 144 | 320 => 145 | 337 => 146 | 338 => 147 | n => n, fun | 37 => 112 | 2 => 2 | 3 => 3 | 53 => 166 | 4 => 4 | 9 => 9 | 171 => 189 | 0 => 0 | 173 => 191 | 212 => 197 | 51 => 178 | 5 => 5 | 20 => 20 | 213 => 198 | 46 => 155 | 232 => 199 | 233 => 200 | n => n, fun | 17 => 0 | 18 => 1 | 19 => 2 | n => n⟩
def Tryz.laysM176_ren : Go.Shelf.Ren := ⟨fun | 176 => 104 | 249 => 115 | 288 => 130 | 283 => 137 | 284 => 138 | 285 => 139 | 286 => 140 | 129 => 129 | 317 => 142 | 318 => 143 | 319 => 144 | 320 => 145 | 337 => 146 | 338 => 147 | n => n, fun | 37 => 112 | 2 => 2 | 3 => 3 | 53 => 166 | 4 => 4 | 9 => 9 | 171 => 189 | 0 => 0 | 173 => 191 | 212 => 197 | 51 => 178 | 5 => 5 | 20 => 20 | 213 => 198 | 46 => 155 | 232 => 199 | 233 => 200 | n => n, fun | 17 => 0 | 18 => 1 | 19 => 2 | n => n⟩
theorem Tryz.laysM176 : Go.Proofs.LaysM.n176 Tryz.prog Tryz.laysM176_ren := {
 mixed := by kernel_rfl
 f129 := Tryz.func129.trans (congrArg some (by kernel_rfl))
 f176 := Tryz.func104.trans (congrArg some (by kernel_rfl))
 f249 := Tryz.func115.trans (congrArg some (by kernel_rfl))
 f283 := Tryz.func137.trans (congrArg some (by kernel_rfl))
 f284 := Tryz.func138.trans (congrArg some (by kernel_rfl))
 f285 := Tryz.func139.trans (congrArg some (by kernel_rfl))
 f286 := Tryz.func140.trans (congrArg some (by kernel_rfl))
 f288 := Tryz.func130.trans (congrArg some (by kernel_rfl))
 f317 := Tryz.func142.trans (congrArg some (by kernel_rfl))
 f318 := Tryz.func143.trans (congrArg some (by kernel_rfl))
 f319 := Tryz.func144.trans (congrArg some (by kernel_rfl))
 f320 := Tryz.func145.trans (congrArg some (by kernel_rfl))
 f337 := Tryz.func146.trans (congrArg some (by kernel_rfl))
 f338 := Tryz.func147.trans (congrArg some (by kernel_rfl))
 t0 := Tryz.underlying0
 a0 := Tryz.isAgg0
 z0 := Tryz.sizeOf0
 v0 := Tryz.zeroValue0
 t2 := Tryz.underlying2
 a2 := Tryz.isAgg2
 z2 := Tryz.sizeOf2
 v2 := Tryz.zeroValue2
 t3 := Tryz.underlying3
 a3 := Tryz.isAgg3
 z3 := Tryz.sizeOf3
 v3 := Tryz.zeroValue3
 t4 := Tryz.underlying4
 a4 := Tryz.isAgg4
 z4 := Tryz.sizeOf4
 v4 := Tryz.zeroValue4
 t5 := Tryz.underlying5
 a5 := Tryz.isAgg5
 z5 := Tryz.sizeOf5
 v5 := Tryz.zeroValue5
 t9 := Tryz.underlying9
 a9 := Tryz.isAgg9
 z9 := Tryz.sizeOf9
 v9 := Tryz.zeroValue9
 t20 := Tryz.underlying20
 a20 := Tryz.isAgg20
 z20 := Tryz.sizeOf20
 v20 := Tryz.zeroValue20
 t37 := Tryz.underlying112
 a37 := Tryz.isAgg112
 z37 := Tryz.sizeOf112
 v37 := Tryz.zeroValue112
 t46 := Tryz.underlying155
 a46 := Tryz.isAgg155
 z46 := Tryz.sizeOf155
 v46 := Tryz.zeroValue155
 t51 := Tryz.underlying178
 a51 := Tryz.isAgg178
 z51 := Tryz.sizeOf178
 v51 := Tryz.zeroValue178
 t53 := Tryz.underlying166
 a53 := Tryz.isAgg166
 z53 := Tryz.sizeOf166
 v53 := Tryz.zeroValue166
 t171 := Tryz.underlying189
 a171 := Tryz.isAgg189
 z171 := Tryz.sizeOf189
 v171 := Tryz.zeroValue189
 t173 := Tryz.underlying191
 a173 := Tryz.isAgg191
 z173 := Tryz.sizeOf191
 v173 := Tryz.zeroValue191
 t212 := Tryz.underlying197
 a212 := Tryz.isAgg197
 z212 := Tryz.sizeOf197
 v212 := Tryz.zeroValue197
 t213 := Tryz.underlying198
 a213 := Tryz.isAgg198
 z213 := Tryz.sizeOf198
 t232 := Tryz.underlying199
 a232 := Tryz.isAgg199
 z232 := Tryz.sizeOf199
 v232 := Tryz.zeroValue199
 t233 := Tryz.underlying200
 a233 := Tryz.isAgg200
 z233 := Tryz.sizeOf200
 v233 := Tryz.zeroValue200
 g17 := by kernel_rfl
 g18 := by kernel_rfl
 g19 := by kernel_rfl
 i0 := by kernel_rfl
 i2 := by kernel_rfl
 i3 := by kernel_rfl
 i4 := by kernel_rfl
 i5 := by kernel_rfl
 i9 := by kernel_rfl
 i20 := by kernel_rfl
 i37 := by kernel_rfl
 i46 := by kernel_rfl
 i51 := by kernel_rfl
 i53 := by kernel_rfl
 i171 := by kernel_rfl
 i173 := by kernel_rfl
 i212 := by kernel_rfl
 i232 := by kernel_rfl
 i233 := by kernel_rfl
 m17 := by kernel_rfl
 m18 := by kernel_rfl
 m19 := by kernel_rfl }
open Go.RowKit Go.Sort Go.Lib in
theorem Tryz.strconv_AppendInt_10 (B n : Nat) (i : Int) (h0 : -9223372036854775808 ≤ i) (h1 : i ≤ 9223372036854775807) (sv : Value) (xs : List Value) (w : World) (hown : w.ownsRow B 5 1 sv n xs) (hBw : B ≤ w.heap.size) (hlim : n + 21 ≤ 140737488355328) (htab : Lib.TabBelow Tryz.prog B w "internal/strconv.uint64pow10" .u64 Lib.pow10Tab) :
  Calls Tryz.prog 104 #[sv, .int .i64 i, .int .i64 10] w fun e w' => ∃ v', e = .returned v' ∧ w'.ownsRow B 5 1 v' (n + (Lib.itoa i).length) (xs ++ Lib.byteCells (Lib.itoa i)) ∧ Below B w w' ∧ Lib.OthersKept 5 none w w' := Any.strconv_AppendInt_10 Tryz.laysM176 B n i h0 h1 sv xs w hown hBw hlim htab
def Tryz.lays111_ren : Go.Shelf.Ren := ⟨fun | 111 => 35 | n => n, fun | 28 => 22 | 3 => 3 | 4 => 4 | 0 => 0 | n => n, fun | n => n⟩
def Tryz.laysNm215_ren : Go.Shelf.Ren := ⟨fun | 15 => 45 | n => n, fun | 22 => 22 | 3 => 3 | 4 => 4 | n => n, fun | n => n⟩
def Tryz.laysNm237_ren : Go.Shelf.Ren := ⟨fun | 37 => 111 | n => n, fun | 3 => 3 | 4 => 4 | n => n, fun | n => n⟩
def Tryz.laysNm232_ren : Go.Shelf.Ren := ⟨fun | 32 => 98 | n => n, fun | 3 => 3 | 4 => 4 | n => n, fun | n => n⟩
def Tryz.laysNm231_ren : Go.Shelf.Ren := ⟨fun | 31 => 97 | 37 => 111 | n => n, fun | 3 => 3 | 4 => 4 | n => n, fun | n => n⟩
def Tryz.laysNm225_ren : Go.Shelf.Ren := ⟨fun | 25 => 68 | 31 => 97 | 32 => 98 | 37 => 111 | n => n, fun | 22 => 22 | 3 => 3 | 4 => 4 | 40 => 155 | 0 => 0 | n => n, fun | n => n⟩
open Go.RowKit Go.Sort in
theorem Tryz.slices_Sort_string_none (p : Option Addr) (cap : Nat) (w : World) :
  Calls Tryz.prog 102 #[.slice p 0 cap] w fun e w' => e = .returned (.tuple #[]) ∧ w' = w := Any.slices_Sort_string_none Tryz.lays190 p cap w
def Tryz.laysSlE041_f45_ren : Go.Shelf.Ren := ⟨fun | 41 => 45 | n => n, fun | 22 => 22 | 23 => 3 | 4 => 4 | n => n, fun | n => n⟩
def Tryz.keys77_ren : Go.Shelf.Ren := ⟨fun | 7 => 77 | 10 => 103 | n => n, fun | 23 => 114 | 26 => 9 | 3 => 47 | 28 => 136 | 0 => 0 | 27 => 135 | 33 => 158 | 4 => 4 | n => n, fun | n => n⟩
theorem Tryz.keys77 : Go.Proofs.SlLaysZ.n7 Tryz.prog Tryz.keys77_ren := {
 mixed := by kernel_rfl
 f7 := ⟨Tryz.f77.name, by decide, Tryz.func77.trans (congrArg some (by kernel_rfl))⟩
 f10 := ⟨Tryz.f103.name, by decide, Tryz.func103.trans (congrArg some (by kernel_rfl))⟩
 t0 := Tryz.underlying0
 a0 := Tryz.isAgg0
 z0 := Tryz.sizeOf0
 v0 := Tryz.zeroValue0
 t4 := Tryz.underlying4
 a4 := Tryz.isAgg4
 z4 := Tryz.sizeOf4
 v4 := Tryz.zeroValue4
 t23 := Tryz.underlying114
 a23 := Tryz.isAgg114
 z23 := Tryz.sizeOf114
 v23 := Tryz.zeroValue114
 t26 := Tryz.underlying9
 a26 := Tryz.isAgg9
 z26 := Tryz.sizeOf9
 v26 := Tryz.zeroValue9
 t27 := Tryz.underlying135
 a27 := Tryz.isAgg135
 z27 := Tryz.sizeOf135
 v27 := Tryz.zeroValue135
 t28 := Tryz.underlying136
 a28 := Tryz.isAgg136
 z28 := Tryz.sizeOf136
 v28 := Tryz.zeroValue136
 t33 := Tryz.underlying158
 a33 := Tryz.isAgg158
 z33 := Tryz.sizeOf158
 v33 := Tryz.zeroValue158 }
def Tryz.sorted76_ren : Go.Shelf.Ren := ⟨fun | 6 => 76 | 8 => 101 | 9 => 102 | 11 => 112 | 13 => 114 | 12 => 113 | 23 => 128 | 24 => 129 | 14 => 119 | 15 => 120 | 16 => 121 | 17 => 122 | 18 => 123 | 19 => 124 | 20 => 125 | 21 => 126 | 22 => 127 | 25 => 131 | 26 => 132 | 27 => 133 | 28 => 134 | 29 => 135 | 30 => 136 | 31 => 141 | n => n, fun | 26 => 9 | 28 => 136 | 24 => 133 | 0 => 0 | 3 => 3 | 37 => 155 | 48 => 178 | 50 => 166 | 4 => 4 | 40 => 171 | 39 => 170 | 45 => 125 | 5 => 5 | 9 => 9 | 51 => 182 | 55 => 186 | 57 => 193 | 58 => 194 | 33 => 158 | n => n, fun | n => n⟩
theorem Tryz.sorted76 : Go.Proofs.SlLaysZ.n6 Tryz.prog Tryz.sorted76_ren := {
 mixed := by kernel_rfl
 f6 := ⟨Tryz.f76.name, by decide, Tryz.func76.trans (congrArg some (by kernel_rfl))⟩
 f8 := ⟨Tryz.f101.name, by decide, Tryz.func101.trans (congrArg some (by kernel_rfl))⟩
 f11 := ⟨Tryz.f112.name, by decide, Tryz.func112.trans (congrArg some (by kernel_rfl))⟩
 t0 := Tryz.underlying0
 a0 := Tryz.isAgg0
 z0 := Tryz.sizeOf0
 v0 := Tryz.zeroValue0
 t24 := Tryz.underlying133
 a24 := Tryz.isAgg133
 z24 := Tryz.sizeOf133
 v24 := Tryz.zeroValue133
 t26 := Tryz.underlying9
 a26 := Tryz.isAgg9
 z26 := Tryz.sizeOf9
 v26 := Tryz.zeroValue9
 t28 := Tryz.underlying136
 a28 := Tryz.isAgg136
 z28 := Tryz.sizeOf136
 v28 := Tryz.zeroValue136
 i26 := by kernel_rfl }
def Tryz.sort102_ren : Go.Shelf.Ren := ⟨fun | 6 => 102 | 8 => 114 | 9 => 113 | 19 => 128 | 20 => 129 | 21 => 119 | 22 => 120 | 23 => 121 | 24 => 122 | 25 => 123 | 26 => 124 | 27 => 125 | 28 => 126 | 29 => 127 | 36 => 131 | 31 => 132 | 32 => 133 | 37 => 134 | 38 => 135 | 39 => 136 | 41 => 141 | n => n, fun | 27 => 133 | 29 => 9 | 3 => 3 | 32 => 155 | 26 => 133 | 0 => 0 | 44 => 178 | 46 => 166 | 4 => 4 | 36 => 171 | 35 => 170 | 41 => 125 | 5 => 5 | 9 => 9 | 53 => 182 | 57 => 186 | 63 => 193 | 64 => 194 | n => n, fun | n => n⟩
theorem Tryz.sort102 : Go.Proofs.SlLaysM.n6 Tryz.prog Tryz.sort102_ren := {
 mixed := by kernel_rfl
 f6 := ⟨Tryz.f102.name, by decide, Tryz.func102.trans (congrArg some (by kernel_rfl))⟩
 f8 := Tryz.func114.trans (congrArg some (by kernel_rfl))
 f9 := ⟨Tryz.f113.name, by decide, Tryz.func113.trans (congrArg some (by kernel_rfl))⟩
 f19 := Tryz.func128.trans (congrArg some (by kernel_rfl))
 f20 := Tryz.func129.trans (congrArg some (by kernel_rfl))
 f21 := ⟨Tryz.f119.name, by decide, Tryz.func119.trans (congrArg some (by kernel_rfl))⟩
 f22 := ⟨Tryz.f120.name, by decide, Tryz.func120.trans (congrArg some (by kernel_rfl))⟩
 f23 := ⟨Tryz.f121.name, by decide, Tryz.func121.trans (congrArg some (by kernel_rfl))⟩
 f24 := ⟨Tryz.f122.name, by decide, Tryz.func122.trans (congrArg some (by kernel_rfl))⟩
 f25 := ⟨Tryz.f123.name, by decide, Tryz.func123.trans (congrArg some (by kernel_rfl))⟩
 f26 := ⟨Tryz.f124.name, by decide, Tryz.func124.trans (congrArg some (by kernel_rfl))⟩
 f27 := ⟨Tryz.f125.name, by decide, Tryz.func125.trans (congrArg some (by kernel_rfl))⟩
 f28 := ⟨Tryz.f126.name, by decide, Tryz.func126.trans (congrArg some (by kernel_rfl))⟩
 f29 := ⟨Tryz.f127.name, by decide, Tryz.func127.trans (congrArg some (by kernel_rfl))⟩
 f31 := Tryz.func132.trans (congrArg some (by kernel_rfl))
 f32 := Tryz.func133.trans (congrArg some (by kernel_rfl))
 f36 := ⟨Tryz.f131.name, by decide, Tryz.func131.trans (congrArg some (by kernel_rfl))⟩
 f37 := ⟨Tryz.f134.name, by decide, Tryz.func134.trans (congrArg some (by kernel_rfl))⟩
 f38 := ⟨Tryz.f135.name, by decide, Tryz.func135.trans (congrArg some (by kernel_rfl))⟩
 f39 := ⟨Tryz.f136.name, by decide, Tryz.func136.trans (congrArg some (by kernel_rfl))⟩
 f41 := ⟨Tryz.f141.name, by decide, Tryz.func141.trans (congrArg some (by kernel_rfl))⟩
 t0 := Tryz.underlying0
 a0 := Tryz.isAgg0
 z0 := Tryz.sizeOf0
 v0 := Tryz.zeroValue0
 t3 := Tryz.underlying3
 a3 := Tryz.isAgg3
 z3 := Tryz.sizeOf3
 v3 := Tryz.zeroValue3
 t4 := Tryz.underlying4
 a4 := Tryz.isAgg4
 z4 := Tryz.sizeOf4
 v4 := Tryz.zeroValue4
 t5 := Tryz.underlying5
 a5 := Tryz.isAgg5
 z5 := Tryz.sizeOf5
 v5 := Tryz.zeroValue5
 t9 := Tryz.underlying9
 a9 := Tryz.isAgg9
 z9 := Tryz.sizeOf9
 v9 := Tryz.zeroValue9
 t26 := Tryz.underlying133
 a26 := Tryz.isAgg133
 z26 := Tryz.sizeOf133
 v26 := Tryz.zeroValue133
 t27 := Tryz.underlying133
 a27 := Tryz.isAgg133
 z27 := Tryz.sizeOf133
 v27 := Tryz.zeroValue133
 t29 := Tryz.underlying9
 a29 := Tryz.isAgg9
 z29 := Tryz.sizeOf9
 v29 := Tryz.zeroValue9
 t32 := Tryz.underlying155
 a32 := Tryz.isAgg155
 z32 := Tryz.sizeOf155
 v32 := Tryz.zeroValue155
 t35 := Tryz.underlying170
 a35 := Tryz.isAgg170
 z35 := Tryz.sizeOf170
 v35 := Tryz.zeroValue170
 t36 := Tryz.underlying171
 a36 := Tryz.isAgg171
 z36 := Tryz.sizeOf171
 v36 := Tryz.zeroValue171
 t41 := Tryz.underlying125
 a41 := Tryz.isAgg125
 z41 := Tryz.sizeOf125
 v41 := Tryz.zeroValue125
 t44 := Tryz.underlying178
 a44 := Tryz.isAgg178
 z44 := Tryz.sizeOf178
 v44 := Tryz.zeroValue178
 t46 := Tryz.underlying166
 a46 := Tryz.isAgg166
 z46 := Tryz.sizeOf166
 v46 := Tryz.zeroValue166
 t53 := Tryz.underlying182
 a53 := Tryz.isAgg182
 z53 := Tryz.sizeOf182
 v53 := Tryz.zeroValue182
 t57 := Tryz.underlying186
 a57 := Tryz.isAgg186
 z57 := Tryz.sizeOf186
 v57 := Tryz.zeroValue186
 t63 := Tryz.underlying193
 a63 := Tryz.isAgg193
 z63 := Tryz.sizeOf193
 v63 := Tryz.zeroValue193
 t64 := Tryz.underlying194
 a64 := Tryz.isAgg194
 z64 := Tryz.sizeOf194
 v64 := Tryz.zeroValue194 }
open Go.RowKit Go.Maps Go.Sort in
theorem Tryz.sorts76 (m : Nat) : AnyZ.SortsIn Tryz.prog Tryz.sorted76_ren Fence.wide m :=
 ⟨fun blk off cap ss W hH hblk hsz => callsIn_wide.2 (AnyM.slices_Sort_string Tryz.sort102 blk off cap ss W hH hblk hsz),
  fun p cap W => callsIn_wide.2 (AnyM.slices_Sort_string_none Tryz.sort102 p cap W)⟩
open Go.RowKit Go.Maps Go.Sort in
theorem Tryz.maps_Keys_77 (mb : Option Nat) (W : World) : CallsIn Fence.wide 5 Tryz.prog 77 #[.map mb] W fun e w' => e = .returned (.func (.func 103) #[] #[.pointer (some ⟨W.heap.size, 0, none⟩)]) ∧ w' = W.alloc (.cells #[.map mb] 114) :=
 AnyZ.keys_in Tryz.keys77 Fence.wide 5 trivial rfl mb W
open Go.RowKit Go.Maps Go.Sort in
theorem Tryz.slices_Sorted_keys_76_77 {H : Type} (b nn : Nat) (D0 : DataW H) (R : Value → Option (DataW H × List MemPlace)) (w : World) (hown : w.ownsMap Tryz.prog 9 R b nn D0) (hmax : Maps.size D0 ≤ maxLen) (hbytes : Maps.size D0 * 16 ≤ 140737488355328) :
  CallsIn Fence.wide 5 Tryz.prog 76 #[.func (.func 103) #[] #[.pointer (some ⟨w.heap.size, 0, none⟩)]] (w.alloc (.cells #[.map (some b)] 114)) fun e w' => ∃ (v : Value) (ss : List (List UInt8)), e = .returned v ∧ ss.Perm (strKeys D0) ∧
   w'.ownsRow (w.alloc (.cells #[.map (some b)] 114)).heap.size 9 1 v ss.length ((ss.mergeSort (fun x y => decide (x ≤ y))).map encStr) ∧ (v = .slice none 0 0 ↔ ss = []) ∧ Below (w.alloc (.cells #[.map (some b)] 114)).heap.size (w.alloc (.cells #[.map (some b)] 114)) w' := by
 have hbl := hown.lt
 have hseq : SeqGives Fence.wide 2 Tryz.prog 103 #[.pointer (some ⟨w.heap.size, 0, none⟩)] encStr (fun ss => ss.Perm (strKeys D0)) (Maps.size D0) (w.alloc (.cells #[.map (some b)] 114)) :=
  AnyZ.keys_gives (ρ := Tryz.keys77_ren) { Tryz.keys77 with } Fence.wide _ trivial rfl (by omega) w.heap.size b nn D0 _ (by simp) (by simp) (by
   obtain ⟨es, clock, hb, Ft, hs, hD⟩ := hown
   exact ⟨es, clock, (Below.heap_alloc _ _ b hbl).trans hb, Ft, hs, hD⟩)
 exact AnyZ.sorted_in Tryz.sorted76 Fence.wide 5 trivial trivial trivial trivial rfl (by omega) (Tryz.sorts76 _) (enters_of Tryz.func102 (by kernel_rfl) rfl) 103 #[.pointer (some ⟨w.heap.size, 0, none⟩)] trivial (enters_of Tryz.func103 (by kernel_rfl) rfl) _ _ hmax hbytes _ hseq
end Go.Proofs
namespace Go.Proofs.YtffceokjeonpcaaGreatDoor
open Go.RowKit
def eY (c : UInt8) : List Value := [.int .u8 c.toNat]
theorem eY_len (c : UInt8) : (eY c).length = 1 := rfl
theorem flat_eY (l : List UInt8) : l.flatMap eY = Lib.byteCells l := by
 induction l with
 | nil => rfl
 | cons c l ih => rw [List.flatMap_cons, ih]; rfl
theorem one_byte (c : UInt8) : ∀ u ∈ eY c, u.oneCell' = true := by
 intro u hu
 simp only [eY, List.mem_cons, List.not_mem_nil, or_false] at hu
 rw [hu]; rfl
theorem zero_u8 : (Tryz.prog.info? 5).map (fun i => (i.zero, i.size, i.bytes)) = some (some (.int .u8 0), 1, 1) := by kernel_rfl
theorem xCf {n : Int} (h : J64 n) : (Lib.itoa n).length ≤ 21 := Lib.itoa_length_le n h.1 h.2
theorem Blk.others {w w' : World} {g : Nat} {t e : TypeId} {cs : Array Value} {b : Option Nat} (h : Blk w g t cs) (k : Lib.OthersKept e b w w') (hb : some g ≠ b) (ht : t ≠ e) : Blk w' g t cs :=
 k g _ h hb fun c fz hc => by injection hc with _ h2 _; exact ht h2
theorem own_kind {α : Type} {w : World} {B : Nat} {T : TypeId} {size : Nat} {enc : α → List Value} {v : Value} {xs : List α} (h : Own w B T size enc v xs) : ∀ g, v.ownBlock = some g → ∃ c fz, w.heap[g]? = some (.cells c T fz) := by
 intro g hg
 rcases h.2 with ⟨h5, _⟩ | ⟨g', cap, cur, hv, _, hh, _⟩
 ·rw [h5] at hg; cases hg
 ·rw [hv] at hg
  have e1 : g' = g := Option.some.inj hg
  rw [e1] at hh
  exact ⟨_, _, hh⟩
structure Yb (w0 w W : World) (v : Value) (xs : List UInt8) : Prop where
 o : Own W w0.heap.size 5 1 eY v xs
 b : Below w0.heap.size w0 W
 k : Lib.OthersKept 5 none w W
theorem Yb.blk {w0 w W : World} {v : Value} {xs : List UInt8} (h : Yb w0 w W v xs) {g : Nat} {t : TypeId} {cs : Array Value} (hb : Blk w g t cs) (ht : t ≠ 5) : Blk W g t cs := hb.others h.k (by simp) ht
theorem Yb.alloc {w0 w W : World} {v : Value} {xs : List UInt8} (h : Yb w0 w W v xs) (o : Obj) : Yb w0 w (W.alloc o) v xs := ⟨h.o.alloc _, h.b.alloc h.b.size _, h.k.alloc _⟩
theorem Yb.grown {w0 w W W' : World} {v v' : Value} {xs ys : List UInt8} (h : Yb w0 w W v xs) (ho : Own W' w0.heap.size 5 1 eY v' ys) (hb : Below w0.heap.size W W') (hg : W.grownBy W' v.ownBlock) : Yb w0 w W' v' ys := ⟨ho, h.b.trans hb, h.k.grown hg (own_kind h.o)⟩
theorem yb_int (w0 : World) (hT : Lib.TabBelow Tryz.prog w0.heap.size w0 "internal/strconv.uint64pow10" .u64 Lib.pow10Tab) {w W : World} {v : Value} {xs : List UInt8} (h : Yb w0 w W v xs) (hl : xs.length ≤ 900000) (n : Int) (hn : J64 n) :
  Calls Tryz.prog 104 #[v, .int .i64 n, .int .i64 10] W fun e w' => ∃ v', e = .returned v' ∧ Yb w0 w w' v' (xs ++ Lib.itoa n) := by
 have ho : W.ownsRow w0.heap.size 5 1 v xs.length (xs.flatMap eY) := h.o
 refine (Tryz.strconv_AppendInt_10 w0.heap.size xs.length n hn.1 hn.2 v (xs.flatMap eY) W ho h.b.size (by omega) (hT.on h.b)).mono ?_
 rintro e w' ⟨v', rfl, ho', hb', hk'⟩
 refine ⟨v', rfl, ⟨?_, h.b.trans hb', h.k.trans hk'⟩⟩
 unfold Own
 have h1 : (xs ++ Lib.itoa n).length = xs.length + (Lib.itoa n).length := List.length_append
 have h2 : (xs ++ Lib.itoa n).flatMap eY = xs.flatMap eY ++ Lib.byteCells (Lib.itoa n) := by rw [← flat_eY (Lib.itoa n)]; exact List.flatMap_append
 rw [h1, h2]
 exact ho'
def dotT : List Int → List UInt8
 | [] => []
 | n :: l => Lib.itoa n ++ l.flatMap fun m => 46 :: Lib.itoa m
theorem xH5 (l : List Int) (n : Int) : dotT (l ++ [n]) = (if l = [] then [] else dotT l ++ [46]) ++ Lib.itoa n := by
 cases l with
 | nil => simp [dotT]
 | cons a l =>
  rw [if_neg (by simp)]
  simp [dotT]
theorem dotT_len {l : List Int} (h : ∀ n ∈ l, J64 n) : (dotT l).length ≤ 22 * l.length := by
 have key : ∀ l : List Int, (∀ n ∈ l, J64 n) → (l.flatMap fun m => 46 :: Lib.itoa m).length ≤ 22 * l.length := by
  intro l
  induction l with
  | nil => intro _; simp
  | cons a l ih =>
   intro h
   have h1 := xCf (h a (by simp))
   have h2 := ih fun n hn => h n (List.mem_cons_of_mem _ hn)
   simp only [List.flatMap_cons, List.length_append, List.length_cons]
   omega
 cases l with
 | nil => simp [dotT]
 | cons a l =>
  have h1 := xCf (h a (by simp))
  have h2 := key l fun n hn => h n (List.mem_cons_of_mem _ hn)
  simp only [dotT, List.length_append, List.length_cons]
  omega
theorem write_any (w0 : World) (hT : Lib.TabBelow Tryz.prog w0.heap.size w0 "internal/strconv.uint64pow10" .u64 Lib.pow10Tab) (w : World) (v : Value) (xs : List UInt8) (A : Option Addr) (c : Nat) (ns : List Int) (hO : Own w w0.heap.size 5 1 eY v xs) (hB : Below w0.heap.size w0 w) (hl : xs.length ≤ 800000)
  (hA : Seg w w.heap.size 1 eI A ns) (hk : ∀ a, A = some a → ∃ cs, Blk w a.block 3 cs) (hns : ns.length ≤ 4) (hJ : ∀ n ∈ ns, J64 n) :
  Calls Tryz.prog 79 #[v, .slice A ns.length c] w fun e w' => ∃ v', e = .returned v' ∧ Yb w0 w w' v' (xs ++ dotT ns) := by
 obtain ⟨ri, hi, hz0, hz1, hz2⟩ := info_parts zero_u8
 have h0 : Hid (Yb w0 w w v (xs ++ dotT (ns.take 0))) := by
  rw [show xs ++ dotT (ns.take 0) = xs by simp [dotT]]
  exact ⟨hO, hB, Lib.OthersKept.refl _ _ _⟩
 have HA := qzL hA
 have HK := qzL hk
 have HJ := qzL hJ
 have HT := qzL hT
 have lB := hB.size
 clear hO hB hA hJ hT hk
 go_enter Tryz.func79, Tryz.ntmps79
 go_upto_region 2 with (fail)
 go_loopw [0, 9] (fun v y WR => ∃ i : Nat, y = .int .i64 i ∧ i ≤ ns.length ∧ Hid (Yb w0 w WR v (xs ++ dotT (ns.take i)))) (fun _ y _ => 2000 - (intOf y).toNat)
 case atStart => exact ⟨0, rfl, by omega, h0⟩
 case round =>
  clear h0
  obtain ⟨i, rfl, hi', hY⟩ := hrel
  by_cases hlt : i < ns.length
  case neg =>
   obtain rfl : i = ns.length := by omega
   have tl : decide (((ns.length : Nat) : Int) < ((ns.length : Nat) : Int)) = false := qzN (by omega)
   have hf := hY.out
   rw [List.take_length] at hf
   have HF := qzL hf
   clear hf hY
   go_wp2
   go_ret
   exact ⟨_, rfl, HF.out⟩
  have tl : decide ((i : Int) < (ns.length : Int)) = true := qzO (by omega)
  obtain ⟨n, hn⟩ : ∃ n, ns[i]? = some n := ⟨_, qzJ hlt⟩
  have hnJ := qzL (HJ.out n (qzK hn))
  have hA1 : Seg wr wr.heap.size 1 eI A ns := by
   intro k x hx
   obtain ⟨b, off, e, hb, hc⟩ := HA.out k x hx
   obtain ⟨cs, hcs⟩ := HK.out _ e
   have h2 := hY.out.blk hcs (by decide)
   exact ⟨b, off, e, h2.lt, fun j v hv => (World.cell?_of_block (w := w) (w' := wr) (a := ⟨b, off + k * 1 + j, none⟩) (h2.trans hcs.symm)).trans (hc j v hv)⟩
  obtain ⟨b0, o0, eA0, hb0, hc0⟩ := xAv hA1 hn
  have hix := fun W => xAp (t := 22) (size := 1) (cap := c) eA0 hlt (by kernel_rfl) (fun W => by kernel_rfl) W
  have d0 : wr.cell? ⟨b0, o0 + i, none⟩ = some (.int .i64 n) := by simpa using hc0 0 _ rfl
  simp only [Nat.mul_one] at hix
  have hlen : (xs ++ dotT (ns.take i)).length ≤ 800200 := by
   have := dotT_len (l := ns.take i) fun n hn => HJ.out n (List.mem_of_mem_take hn)
   rw [List.length_append]
   rw [List.length_take] at this
   omega
  have hsn : ns.take (i + 1) = ns.take i ++ [n] := by rw [List.take_add_one, hn]; rfl
  have HSN := qzL hsn
  clear hc0 eA0 hA1 hn hsn
  by_cases hz : i = 0
  ·have tz : decide ((0 : Int) < (i : Int)) = false := qzN (by omega)
   have tz' : decide (0 < i) = false := qzN (by omega)
   have hd : Hid ((xs ++ dotT (ns.take i)) ++ Lib.itoa n = xs ++ dotT (ns.take (i + 1))) := by
    unfold Hid
    rw [HSN.out, xH5, hz]
    simp [dotT]
   have HAP := qzL (yb_int w0 HT.out hY.out (by omega) n hnJ.out)
   rw [hd.out] at HAP
   have HZ := qzL hz
   clear hz hd
   go_wp2_with (go_at_call 104; (with_reducible refine HAP.out.mono ?_); rintro e w5 ⟨v5, rfl, hY5⟩; have HY5 := qzL hY5; clear hY5)
   go_roundw
   case rel => exact ⟨i + 1, by simp, by omega, HY5⟩
   case measure => simp [intOf]; omega
  ·have tz : decide ((0 : Int) < (i : Int)) = true := qzO (by omega)
   have tz' : decide (0 < i) = true := qzO (by omega)
   have hd : Hid (((xs ++ dotT (ns.take i)) ++ [46]) ++ Lib.itoa n = xs ++ dotT (ns.take (i + 1))) := by
    unfold Hid
    have hne : ns.take i ≠ [] := fun e => by have := congrArg List.length e; rw [List.length_take, List.length_nil] at this; omega
    rw [HSN.out, xH5, if_neg hne]
    simp
   have HD := hd
   obtain ⟨zs, hzs⟩ : ∃ zs, xs ++ dotT (ns.take i) = zs := ⟨_, rfl⟩
   rw [hzs] at hY hlen HD
   have hg1 : Blk (wr.alloc (.cells #[.int .u8 46] 5)) wr.heap.size 5 #[.int .u8 46] := Blk.new _ _ _
   have HYO := qzL hY.out.o
   have lW : w0.heap.size ≤ wr.heap.size := hY.out.b.size
   clear hz hd hzs
   go_wp2_with (first | (at_builtin; go_loud (refine xBh _ rfl (.tmp 16) (.tmp 17) _ rfl w0.heap.size 5 ri _ 1 1 Tryz.underlying112 hi hz0 hz1 hz2 rfl (by omega) (by omega) eY eY_len one_byte _ zs rfl (HYO.out.alloc _) (by omega) wr.heap.size 1 (46 : UInt8) rfl hg1 (by simp; omega) ?_); intro v4 w4 hO4 hb4 hg4; have hY4 : Yb w0 w w4 v4 (zs ++ [46]) := (hY.out.alloc _).grown hO4 hb4 hg4; have HAP := qzL (yb_int w0 HT.out hY4 (by rw [List.length_append, List.length_singleton]; omega) n hnJ.out); rw [HD.out] at HAP; clear hY4 hO4 hb4 hg4) | (go_at_call 104; (with_reducible refine HAP.out.mono ?_); rintro e w5 ⟨v5, rfl, hY5⟩; have HY5 := qzL hY5; clear hY5))
   go_roundw
   case rel => exact ⟨i + 1, by simp, by omega, HY5⟩
   case measure => simp [intOf]; omega
theorem xEu {α : Type} {w : World} {g : Nat} {T : TypeId} {size : Nat} {enc : α → List Value} {xs : List α} (he : ∀ x, (enc x).length = size) (h : Blk w g T (xs.flatMap enc).toArray) : Seg w w.heap.size size enc (some ⟨g, 0, none⟩) xs := fun k x hx => by
 refine ⟨g, 0, rfl, h.lt, fun j u hu => ?_⟩
 have hj : j < size := by rw [← he x]; exact (qzM hu).1
 rw [Nat.zero_add, h.cell, qzA, getElem?_flatMap he xs k j x hx hj]
 exact hu
theorem wrN (w0 : World) (hT : Lib.TabBelow Tryz.prog w0.heap.size w0 "internal/strconv.uint64pow10" .u64 Lib.pow10Tab) {w W : World} {v : Value} {xs : List UInt8} (h : Yb w0 w W v xs) (hl : xs.length ≤ 800000) {g c : Nat} (ns : List Int) (hg : Blk W g 3 (ns.flatMap eI).toArray) (hn : ∀ n ∈ ns, J64 n) (h4 : ns.length ≤ 4) :
  Calls Tryz.prog 79 #[v, .slice (some ⟨g, 0, none⟩) ns.length c] W fun e w' => ∃ v', e = .returned v' ∧ Yb w0 w w' v' (xs ++ dotT ns) :=
 (write_any w0 hT W v xs (some ⟨g, 0, none⟩) c ns h.o h.b hl (xEu xAz hg) (fun a e => by cases e; exact ⟨_, hg⟩) h4 hn).mono fun e w' ⟨v', h1, hY⟩ => ⟨v', h1, hY.o, hY.b, h.k.trans hY.k⟩
theorem wr1 (w0 : World) (hT : Lib.TabBelow Tryz.prog w0.heap.size w0 "internal/strconv.uint64pow10" .u64 Lib.pow10Tab) {w W : World} {v : Value} {xs : List UInt8} (h : Yb w0 w W v xs) (hl : xs.length ≤ 800000) {g c : Nat} (n : Int) (hg : Blk W g 3 #[.int .i64 n]) (hn : J64 n) :
  Calls Tryz.prog 79 #[v, .slice (some ⟨g, 0, none⟩) 1 c] W fun e w' => ∃ v', e = .returned v' ∧ Yb w0 w w' v' (xs ++ Lib.itoa n) := by
 have := wrN w0 hT h hl (c := c) [n] hg (fun x hx => by rw [List.mem_singleton.1 hx]; exact hn) (by simp)
 rwa [show dotT [n] = Lib.itoa n by simp [dotT]] at this
theorem wr4 (w0 : World) (hT : Lib.TabBelow Tryz.prog w0.heap.size w0 "internal/strconv.uint64pow10" .u64 Lib.pow10Tab) {w W : World} {v : Value} {xs : List UInt8} (h : Yb w0 w W v xs) (hl : xs.length ≤ 800000) {g c : Nat} (n1 n2 n3 n4 : Int) (hg : Blk W g 3 #[.int .i64 n1, .int .i64 n2, .int .i64 n3, .int .i64 n4]) (h1 : J64 n1) (h2 : J64 n2) (h3 : J64 n3) (h4 : J64 n4) :
  Calls Tryz.prog 79 #[v, .slice (some ⟨g, 0, none⟩) 4 c] W fun e w' => ∃ v', e = .returned v' ∧ Yb w0 w w' v' (xs ++ dotT [n1, n2, n3, n4]) :=
 wrN w0 hT h hl (c := c) [n1, n2, n3, n4] hg (fun x hx => by simp only [List.mem_cons, List.not_mem_nil, or_false] at hx; rcases hx with rfl | rfl | rfl | rfl <;> assumption) (by simp)
theorem xB5 {w0 w W : World} {ops : Array Oper} {rest : List Oper} {o : Oper} {a : Act} {Q : Exit → Act → World → Prop} (hgd : o.guard = none) (s x : Operand)
  (ho : o.op = .call { callee := .builtin .append, args := #[s, x], argTypes := #[112, 112] }) (v : Value) (xs : List UInt8) (hs : a.eval s = v) (hY : Yb w0 w W v xs) (hl : xs.length ≤ 900000) (g c : Nat) (y : UInt8) (hx : a.eval x = .slice (some ⟨g, 0, none⟩) 1 c)
  (hblk : Blk W g 5 #[.int .u8 y.toNat]) (h : ∀ v' w', Yb w0 w w' v' (xs ++ [y]) → wpList Tryz.prog ops Q rest (a.put o.dst v') w') : wpList Tryz.prog ops Q (o :: rest) a W := by
 obtain ⟨ri, hi, hz0, hz1, hz2⟩ := info_parts zero_u8
 exact xBh _ hgd s x _ ho w0.heap.size 5 ri _ 1 1 Tryz.underlying112 hi hz0 hz1 hz2 rfl (by omega) (by omega) eY eY_len one_byte v xs hs hY.o (by omega) g c y hx hblk hY.b.size fun v' w' h1 h2 h3 => h v' w' (hY.grown h1 h2 h3)
theorem strNums (l : List UInt8) : (strOfNums (l.map fun x => (x.toNat : Int))).data.toList = l := by
 rw [strOfNums_data, List.map_map]
 conv => rhs; rw [← List.map_id l]
 apply List.map_congr_left
 intro x _
 simp
def tBy (l : List UInt8) : ByteArray := ⟨l.toArray⟩
theorem tBy_size (l : List UInt8) : (tBy l).size = l.length := by simp [tBy, ByteArray.size]
theorem xGc (l : List UInt8) : (tBy l).data.toList = l := rfl
theorem conv_bytes {P : Program} (w : World) (t e d : TypeId) (ht : P.underlying t = some (.slice e)) (he : P.underlying e = some (.int .u8)) (hd : P.underlying d = some .string) {B : Nat} {v : Value} {l : List UInt8} (h : Own w B e 1 eY v l) (hne : l ≠ []) :
  (Go.convert t d v).run P w = .ok (.string (tBy l)) w := by
 obtain ⟨A, c, rfl, hc, hs⟩ := h.seg eY_len
 obtain ⟨b, off, rfl, hb⟩ := hs.some_ (List.length_pos_iff.2 hne)
 have := run_convert_bytes_arg (P := P) w t e ht he b off l.length c (l.map fun x => (x.toNat : Int)) (by simp) (fun i hi => by
  obtain ⟨b', off', e', _, hx⟩ := hs i l[i] (qzJ hi)
  injection e' with e'
  injection e' with e1 e2
  rw [e1, e2]
  have h1 := hx 0 (.int .u8 (l[i].toNat : Int)) rfl
  rw [Nat.mul_one, Nat.add_zero] at h1
  rw [h1]
  simp [List.getD, List.getElem?_map, qzJ hi]) d hd
 rw [this]
 congr 2
 apply ByteArray.ext
 apply Array.toList_inj.1
 exact strNums l
theorem holT_len {l : List Int} (h : ∀ n ∈ l, J64 n) : (holT l).length ≤ 22 * l.length := by
 induction l with
 | nil => simp [holT]
 | cons a l ih =>
  have h1 := xCf (h a (by simp))
  have h2 := ih fun n hn => h n (List.mem_cons_of_mem _ hn)
  have e : holT (a :: l) = (Lib.itoa a ++ [44]) ++ holT l := rfl
  rw [e]
  simp only [List.length_append, List.length_cons, List.length_nil]
  omega
theorem mkT_len {l : List Mk} (h : ∀ m ∈ l, m.I64) : (mkT l).length ≤ 90 * l.length := by
 induction l with
 | nil => simp [mkT]
 | cons a l ih =>
  have ha := h a (by simp)
  have h1 := xCf ha.st
  have h2 := xCf ha.left
  have h3 := xCf ha.got
  have h4 := xCf ha.brr
  have h5 := ih fun n hn => h n (List.mem_cons_of_mem _ hn)
  have e : mkT (a :: l) = a.text ++ mkT l := rfl
  have h6 : (if a.pau then [112] else [] : List UInt8).length ≤ 1 := by cases a.pau <;> simp
  rw [e]
  unfold Mk.text
  simp only [List.length_append, List.length_cons, List.length_nil]
  omega
theorem dot_mk (m : Mk) : dotT [m.st, m.left, m.got, m.brr] ++ ((if m.pau then [112] else []) ++ [44]) = m.text := by
 unfold Mk.text
 simp [dotT]
theorem Yb.here {w0 w W : World} {v : Value} {xs : List UInt8} (h : Yb w0 w W v xs) : Yb w0 W W v xs := ⟨h.o, h.b, Lib.OthersKept.refl _ _ _⟩
theorem Yb.back {w0 w W W' : World} {v v' : Value} {xs ys : List UInt8} (h : Yb w0 w W v xs) (h' : Yb w0 W W' v' ys) : Yb w0 w W' v' ys := ⟨h'.o, h'.b, h.k.trans h'.k⟩
theorem yb_ne {w0 w W : World} {v : Value} {xs : List UInt8} (h : Yb w0 w W v xs) {g : Nat} {t : TypeId} {cs : Array Value} (hb : Blk w g t cs) (ht : t ≠ 5) (i : Nat) : W.cell? ⟨g, i, none⟩ = cs[i]? := (h.blk hb ht).cell i
theorem encode_any (s : Sta) (q : Qm) (w : World) (hT : Lib.TabBelow Tryz.prog w.heap.size w "internal/strconv.uint64pow10" .u64 Lib.pow10Tab) (hS : Stm w s q) (hI : s.I64) (nh : s.hol.length ≤ 5000) (nu : s.used.length ≤ 5000) (nm : s.marks.length ≤ 5000) :
  Calls Tryz.prog 56 #[.agg (stA s q)] w fun e w' => e = .returned (.string (tBy s.text)) ∧ Below w.heap.size w w' := by
 have HS := qzL hS
 have HI := qzL hI
 have HT := qzL hT
 have ld := xCf hI.day
 clear hS hI hT
 go_enter Tryz.func56, Tryz.ntmps56
 go_upto_region 1 with (fail)
 refine xAi ?_
 intro X hX
 have gs : Blk X w.heap.size 47 (stA s q) := by rw [hX]; exact Blk.new _ _ _
 have HB : Hid (Below w.heap.size w X) := by rw [hX]; exact wa1 _ _
 obtain ⟨bs, ebs⟩ : ∃ b, w.heap.size = b := ⟨_, rfl⟩
 have hbs : Hid (w.heap.size = bs) := ebs
 rw [ebs] at gs ⊢
 clear hX ebs
 have GS := qzL gs
 have s0 : X.cell? ⟨bs, 0, none⟩ = some (.int .i64 s.day) := gs.cell 0
 have hY0 : Hid (Yb w X (X.alloc (.cells #[.int .i64 s.day] 3)) (.slice none 0 0) []) := ⟨Own.nil _ _ _ _ _, HB.out.alloc HB.out.size _, (Lib.OthersKept.refl _ _ _).alloc _⟩
 have HW1 := qzL (wr1 w HT.out hY0.out (by simp) (c := 1) s.day (Blk.new X 3 #[.int .i64 s.day]) HI.out.day)
 go_upto_region 2 with (first | (go_at_call 79; (with_reducible refine HW1.out.mono ?_); rintro e w1 ⟨v1, rfl, hY1⟩; have HY1 := qzL hY1; clear hY1) | (at_builtin; go_loud (refine xB5 (w0 := w) (w := X) rfl (.tmp 13) (.tmp 14) rfl _ _ rfl (HY1.out.alloc _) (by rw [qzF]; omega) w1.heap.size 1 59 rfl (Blk.new _ _ _) ?_); intro v2 w2 hY2; have HY2 := qzL hY2; clear hY2))
 obtain ⟨P1, hP1⟩ : ∃ P, ([] : List UInt8) ++ Lib.itoa s.day ++ [59] = P := ⟨_, rfl⟩
 have l1 : P1.length ≤ 30 := by rw [← hP1]; simp only [List.length_append, List.length_cons, List.length_nil]; omega
 have HP1 := qzL hP1
 rw [hP1] at HY2
 clear hP1 HW1 hY0 HY1 s0 gs
 have s1 : w2.cell? ⟨bs, 1, none⟩ = some (.slice q.h s.hol.length q.hc) := yb_ne HY2.out GS.out (by decide) 1
 go_upto_region 3 with (fail)
 clear s1
 go_loopw [3, 19] (fun v y WR => ∃ i : Nat, y = .int .i64 i ∧ i ≤ s.hol.length ∧ Hid (Yb w X WR v (P1 ++ holT (s.hol.take i)))) (fun _ y _ => 20000 - (intOf y).toNat)
 case atStart => exact ⟨0, rfl, by omega, by rw [show P1 ++ holT (s.hol.take 0) = P1 by simp [holT]]; exact HY2⟩
 case round =>
  clear HY2
  obtain ⟨i, rfl, hi', hY⟩ := hrel
  have hlen : (P1 ++ holT (s.hol.take i)).length ≤ 200000 := by
   have := holT_len (l := s.hol.take i) fun n hn => HI.out.hol n (List.mem_of_mem_take hn)
   rw [List.length_append]
   rw [List.length_take] at this
   omega
  by_cases hlt : i < s.hol.length
  case pos =>
   have tl : decide ((i : Int) < (s.hol.length : Int)) = true := qzO (by omega)
   obtain ⟨n, hn⟩ : ∃ n, s.hol[i]? = some n := ⟨_, qzJ hlt⟩
   have hnJ := qzL (HI.out.hol n (qzK hn))
   obtain ⟨b0, o0, eA0, hb0, hc0⟩ := xAv (HS.out.then_ hY.out.b).h hn
   have hix := fun W => xAp (t := 22) (size := 1) (cap := q.hc) eA0 hlt (by kernel_rfl) (fun W => by kernel_rfl) W
   have d0 : wr.cell? ⟨b0, o0 + i, none⟩ = some (.int .i64 n) := by simpa using hc0 0 _ rfl
   simp only [Nat.mul_one] at hix
   have HSN : Hid (((P1 ++ holT (s.hol.take i)) ++ Lib.itoa n) ++ [44] = P1 ++ holT (s.hol.take (i + 1))) := by
    unfold Hid
    rw [List.take_add_one, hn]
    simp [holT]
   obtain ⟨zs, hzs⟩ : ∃ zs, P1 ++ holT (s.hol.take i) = zs := ⟨_, rfl⟩
   rw [hzs] at hY hlen HSN
   have ln := xCf hnJ.out
   have HW1 := qzL (wr1 w HT.out (hY.out.alloc (.cells #[.int .i64 n] 3)) (by omega) (c := 1) n (Blk.new wr 3 #[.int .i64 n]) hnJ.out)
   clear hc0 eA0 hn hzs
   go_wp2_with (first | (go_at_call 79; (with_reducible refine HW1.out.mono ?_); rintro e w1 ⟨v1, rfl, hY1⟩; have HY1 := qzL hY1; clear hY1) | (at_builtin; go_loud (refine xB5 (w0 := w) (w := X) rfl (.tmp 26) (.tmp 27) rfl _ _ rfl (HY1.out.alloc _) (by rw [List.length_append]; omega) w1.heap.size 1 44 rfl (Blk.new _ _ _) ?_); intro v2 w2 hY2; have HY2 := qzL hY2; clear hY2))
   rw [HSN.out] at HY2
   go_roundw
   case rel => exact ⟨i + 1, by simp, by omega, HY2⟩
   case measure => simp [intOf]; omega
  obtain rfl : i = s.hol.length := by omega
  have tl : decide (((s.hol.length : Nat) : Int) < ((s.hol.length : Nat) : Int)) = false := qzN (by omega)
  rw [List.take_length] at hY hlen
  obtain ⟨P2, hP2⟩ : ∃ P, (P1 ++ holT s.hol) ++ [59] = P := ⟨_, rfl⟩
  have HP2 := qzL hP2
  have l2 : P2.length ≤ 200001 := by rw [← hP2, List.length_append, List.length_singleton]; omega
  obtain ⟨zs, hzs⟩ : ∃ zs, P1 ++ holT s.hol = zs := ⟨_, rfl⟩
  rw [hzs] at hY hlen hP2
  clear hzs
  go_upto_region 8 with (at_builtin; go_loud (refine xB5 (w0 := w) (w := X) rfl (.tmp 30) (.tmp 31) rfl _ _ rfl (hY.out.alloc _) (by omega) wr.heap.size 1 59 rfl (Blk.new _ _ _) ?_); intro v3 w3 hY3; have HY3 := qzL hY3; clear hY3)
  rw [hP2] at HY3
  clear hY hlen hP2 tl hlt
  have s2 : w3.cell? ⟨bs, 2, none⟩ = some (.slice q.u s.used.length q.uc) := yb_ne HY3.out GS.out (by decide) 2
  go_upto_region 9 with (fail)
  clear s2
  go_loopw [3, 36] (fun v y WR => ∃ i : Nat, y = .int .i64 i ∧ i ≤ s.used.length ∧ Hid (Yb w X WR v (P2 ++ useT (s.used.take i)))) (fun _ y _ => 20000 - (intOf y).toNat)
  case atStart => exact ⟨0, rfl, by omega, by rw [show P2 ++ useT (s.used.take 0) = P2 by simp [useT]]; exact HY3⟩
  case round =>
   clear HY3
   obtain ⟨i, rfl, hi', hY⟩ := hrel
   have hlen : (P2 ++ useT (s.used.take i)).length ≤ 300000 := by
    unfold useT
    rw [List.length_append, List.length_map, List.length_take]
    omega
   by_cases hlt : i < s.used.length
   case pos =>
    have tl : decide ((i : Int) < (s.used.length : Int)) = true := qzO (by omega)
    obtain ⟨n, hn⟩ : ∃ n, s.used[i]? = some n := ⟨_, qzJ hlt⟩
    obtain ⟨b0, o0, eA0, hb0, hc0⟩ := xAv (HS.out.then_ hY.out.b).u hn
    have hix := fun W => xAp (t := 44) (size := 1) (cap := q.uc) eA0 hlt (by kernel_rfl) (fun W => by kernel_rfl) W
    have d0 : wr.cell? ⟨b0, o0 + i, none⟩ = some (.bool n) := by simpa using hc0 0 _ rfl
    simp only [Nat.mul_one] at hix
    have HSN : Hid ((P2 ++ useT (s.used.take i)) ++ [if n then 49 else 48] = P2 ++ useT (s.used.take (i + 1))) := by
     unfold Hid
     rw [List.take_add_one, hn]
     simp [useT]
    obtain ⟨zs, hzs⟩ : ∃ zs, P2 ++ useT (s.used.take i) = zs := ⟨_, rfl⟩
    rw [hzs] at hY hlen HSN
    clear hc0 eA0 hn hzs
    cases n with
    | true =>
     go_wp2_with (at_builtin; go_loud (refine xB5 (w0 := w) (w := X) rfl (.tmp 41) (.tmp 42) rfl _ _ rfl (hY.out.alloc _) (by omega) wr.heap.size 1 49 rfl (Blk.new _ _ _) ?_); intro v2 w2 hY2; have HY2 := qzL hY2; clear hY2)
     have hsn : zs ++ [49] = P2 ++ useT (s.used.take (i + 1)) := HSN.out
     rw [hsn] at HY2
     clear hsn
     go_roundw
     case rel => exact ⟨i + 1, by simp, by omega, HY2⟩
     case measure => simp [intOf]; omega
    | false =>
     go_wp2_with (at_builtin; go_loud (refine xB5 (w0 := w) (w := X) rfl (.tmp 44) (.tmp 45) rfl _ _ rfl (hY.out.alloc _) (by omega) wr.heap.size 1 48 rfl (Blk.new _ _ _) ?_); intro v2 w2 hY2; have HY2 := qzL hY2; clear hY2)
     have hsn : zs ++ [48] = P2 ++ useT (s.used.take (i + 1)) := HSN.out
     rw [hsn] at HY2
     clear hsn
     go_roundw
     case rel => exact ⟨i + 1, by simp, by omega, HY2⟩
     case measure => simp [intOf]; omega
   obtain rfl : i = s.used.length := by omega
   have tl : decide (((s.used.length : Nat) : Int) < ((s.used.length : Nat) : Int)) = false := qzN (by omega)
   rw [List.take_length] at hY hlen
   obtain ⟨P3, hP3⟩ : ∃ P, (P2 ++ useT s.used) ++ [59] = P := ⟨_, rfl⟩
   have HP3 := qzL hP3
   have l3 : P3.length ≤ 300001 := by rw [← hP3, List.length_append, List.length_singleton]; omega
   obtain ⟨zs, hzs⟩ : ∃ zs, P2 ++ useT s.used = zs := ⟨_, rfl⟩
   rw [hzs] at hY hlen hP3
   clear hzs
   go_upto_region 16 with (at_builtin; go_loud (refine xB5 (w0 := w) (w := X) rfl (.tmp 48) (.tmp 49) rfl _ _ rfl (hY.out.alloc _) (by omega) wr.heap.size 1 59 rfl (Blk.new _ _ _) ?_); intro v3 w3 hY3; have HY3 := qzL hY3; clear hY3)
   rw [hP3] at HY3
   clear hY hlen hP3 tl hlt
   have s3 : w3.cell? ⟨bs, 3, none⟩ = some (.slice q.m s.marks.length q.mc) := yb_ne HY3.out GS.out (by decide) 3
   go_upto_region 17 with (fail)
   clear s3
   go_loopw [3, 54] (fun v y WR => ∃ i : Nat, y = .int .i64 i ∧ i ≤ s.marks.length ∧ Hid (Yb w X WR v (P3 ++ mkT (s.marks.take i)))) (fun _ y _ => 20000 - (intOf y).toNat)
   case atStart => exact ⟨0, rfl, by omega, by rw [show P3 ++ mkT (s.marks.take 0) = P3 by simp [mkT]]; exact HY3⟩
   case round =>
    clear HY3
    obtain ⟨i, rfl, hi', hY⟩ := hrel
    have hlen : (P3 ++ mkT (s.marks.take i)).length ≤ 760000 := by
     have := mkT_len (l := s.marks.take i) fun n hn => HI.out.marks n (List.mem_of_mem_take hn)
     rw [List.length_append]
     rw [List.length_take] at this
     omega
    by_cases hlt : i < s.marks.length
    case pos =>
     have tl : decide ((i : Int) < (s.marks.length : Int)) = true := qzO (by omega)
     obtain ⟨n, hn⟩ : ∃ n, s.marks[i]? = some n := ⟨_, qzJ hlt⟩
     have hnJ := qzL (HI.out.marks n (qzK hn))
     obtain ⟨b0, o0, eA0, hb0, hc0⟩ := xAv (HS.out.then_ hY.out.b).m hn
     have hrg : wr.rangeAt b0 (o0 + i * 5) (mL n) := fun j v hv => hc0 j v hv
     have hix := fun W => xAp (t := 45) (size := 5) (cap := q.mc) eA0 hlt (by kernel_rfl) (fun W => by kernel_rfl) W
     have HSN : Hid (((P3 ++ mkT (s.marks.take i)) ++ dotT [n.st, n.left, n.got, n.brr]) ++ ((if n.pau then [112] else []) ++ [44]) = P3 ++ mkT (s.marks.take (i + 1))) := by
      unfold Hid
      rw [List.append_assoc, dot_mk, List.take_add_one, hn]
      simp [mkT]
     have ln := dotT_len (l := [n.st, n.left, n.got, n.brr]) (fun x hx => by simp only [List.mem_cons, List.not_mem_nil, or_false] at hx; rcases hx with rfl | rfl | rfl | rfl <;> first | exact hnJ.out.st | exact hnJ.out.left | exact hnJ.out.got | exact hnJ.out.brr)
     simp only [List.length_cons, List.length_nil] at ln
     obtain ⟨zs, hzs⟩ : ∃ zs, P3 ++ mkT (s.marks.take i) = zs := ⟨_, rfl⟩
     rw [hzs] at hY hlen HSN
     clear hc0 eA0 hn hzs
     go_upto_region 19 with ((refine xAm 61 elM _ _ _ rfl rfl rfl rfl rfl rfl rfl rfl rfl b0 _ rfl (mL n) rfl hrg (by simp [Value.oneCell']) (by decide) (by simp) (by simp) ?_; simp only [Act.put, qzG, qzH, qzI]))
     refine xAi ?_
     intro V hV
     have gm : Blk V wr.heap.size 61 (mA n) := by rw [hV]; exact Blk.new _ _ _
     have hYV : Hid (Yb w X V u3 zs) := by rw [hV]; exact hY.out.alloc _
     obtain ⟨bm, ebm⟩ : ∃ b, wr.heap.size = b := ⟨_, rfl⟩
     rw [ebm] at gm ⊢
     have GM := qzL gm
     clear hV ebm hrg hix hb0 hY gm
     have m0 : V.cell? ⟨bm, 0, none⟩ = some (.int .i64 n.st) := GM.out.cell 0
     have m1 : V.cell? ⟨bm, 1, none⟩ = some (.int .i64 n.left) := GM.out.cell 1
     have m2 : V.cell? ⟨bm, 2, none⟩ = some (.int .i64 n.got) := GM.out.cell 2
     have m3 : V.cell? ⟨bm, 3, none⟩ = some (.int .i64 n.brr) := GM.out.cell 3
     have HYV := qzL (hYV.out.here)
     have HW4 := qzL (wr4 w HT.out (HYV.out.alloc (.cells #[.int .i64 n.st, .int .i64 n.left, .int .i64 n.got, .int .i64 n.brr] 3)) (by omega) (c := 4) n.st n.left n.got n.brr (Blk.new V 3 #[.int .i64 n.st, .int .i64 n.left, .int .i64 n.got, .int .i64 n.brr]) hnJ.out.st hnJ.out.left hnJ.out.got hnJ.out.brr)
     go_upto_region 20 with (go_at_call 79; (with_reducible refine HW4.out.mono ?_); rintro e w4 ⟨v4, rfl, hY4⟩; have HY4 := qzL hY4; clear hY4)
     obtain ⟨zs4, hz4⟩ : ∃ z, zs ++ dotT [n.st, n.left, n.got, n.brr] = z := ⟨_, rfl⟩
     have l4 : zs4.length ≤ 760088 := by rw [← hz4, List.length_append]; omega
     rw [hz4] at HY4 HSN
     have m4 : w4.cell? ⟨bm, 4, none⟩ = some (.bool n.pau) := (HY4.out.blk GM.out (by decide)).cell 4
     obtain ⟨pv, hpv⟩ : ∃ p, n.pau = p := ⟨_, rfl⟩
     rw [hpv] at HSN m4
     clear HW4 hz4 m0 m1 m2 m3 hpv ln
     cases pv with
     | true =>
      go_upto_region 22 with (at_builtin; go_loud (refine xB5 (w0 := w) (w := V) rfl (.tmp 71) (.tmp 72) rfl _ _ rfl (HY4.out.alloc _) (by omega) w4.heap.size 1 112 rfl (Blk.new _ _ _) ?_); intro v5 w5 hY5; have HY5 := qzL hY5; clear hY5)
      go_wp2_with (at_builtin; go_loud (refine xB5 (w0 := w) (w := V) rfl (.tmp 74) (.tmp 75) rfl _ _ rfl (HY5.out.alloc _) (by rw [List.length_append, List.length_singleton]; omega) w5.heap.size 1 44 rfl (Blk.new _ _ _) ?_); intro v6 w6 hY6; have HY6 := qzL hY6; clear hY6)
      have hsn : (zs4 ++ [112]) ++ [44] = P3 ++ mkT (s.marks.take (i + 1)) := by rw [← HSN.out]; simp
      rw [hsn] at HY6
      clear hsn
      go_roundw
      case rel => exact ⟨i + 1, by simp, by omega, qzL (hYV.out.back HY6.out)⟩
      case measure => simp [intOf]; omega
     | false =>
      go_wp2_with (at_builtin; go_loud (refine xB5 (w0 := w) (w := V) rfl (.tmp 74) (.tmp 75) rfl _ _ rfl (HY4.out.alloc _) (by omega) w4.heap.size 1 44 rfl (Blk.new _ _ _) ?_); intro v6 w6 hY6; have HY6 := qzL hY6; clear hY6)
      have hsn : zs4 ++ [44] = P3 ++ mkT (s.marks.take (i + 1)) := by rw [← HSN.out]; simp
      rw [hsn] at HY6
      clear hsn
      go_roundw
      case rel => exact ⟨i + 1, by simp, by omega, qzL (hYV.out.back HY6.out)⟩
      case measure => simp [intOf]; omega
    obtain rfl : i = s.marks.length := by omega
    have tl : decide (((s.marks.length : Nat) : Int) < ((s.marks.length : Nat) : Int)) = false := qzN (by omega)
    rw [List.take_length] at hY
    have hfin : P3 ++ mkT s.marks = s.text := by
     rw [← HP3.out, ← HP2.out, ← HP1.out]
     unfold Sta.text
     simp
    rw [hfin] at hY
    have hne : s.text ≠ [] := by unfold Sta.text; simp
    have hcv := conv_bytes wr 112 5 9 Tryz.underlying112 Tryz.underlying5 Tryz.underlying9 hY.out.o hne
    clear hfin hlen hne tl hlt
    go_wp2
    go_ret
    exact ⟨rfl, hY.out.b⟩
open Go.Maps Go.Sort
theorem xBx {P : Program} {w w' : World} {name : String} {k : IntKind} {zs : List Int} (h : Lib.TabIs P w name k zs) (hb : Below w.heap.size w w') : Lib.TabIs P w' name k zs := by
 unfold Lib.TabIs World.var? at *
 cases hg : P.globalNamed name with
 | none => simp [hg] at h
 | some g =>
  simp only [hg, Option.bind_some] at h ⊢
  have hlt : g < w.heap.size := by
   rcases Nat.lt_or_ge g w.heap.size with hl | hl
   ·exact hl
   ·rw [Array.getElem?_eq_none hl] at h; simp at h
  rw [hb.block g hlt]
  exact h
abbrev Lx (w : World) : Prop := Lib.TabIs Tryz.prog w "internal/strconv.uint64pow10" .u64 Lib.pow10Tab
theorem useT_len (l : List Bool) : (useT l).length = l.length := by
 unfold useT
 simp
theorem txt_len {s : Sta} (h : s.I64) (nh : s.hol.length ≤ 5000) (nu : s.used.length ≤ 5000) (nm : s.marks.length ≤ 5000) : s.text.length ≤ 600000 := by
 have h1 := xCf h.day
 have h2 := holT_len h.hol
 have h3 := mkT_len h.marks
 have h4 := useT_len s.used
 unfold Sta.text
 simp only [List.length_append, List.length_cons]
 omega
theorem enc_ok {c : Con} {w : World} (hT : Lx w) (x : SQ) (hk : SOk c x.1) (W : World) (hb : Below w.heap.size w W) (hm : Stm W x.1 x.2) :
  Calls Tryz.prog 56 #[.agg (stA x.1 x.2)] W fun e w' => e = .returned (.string (tBy (txt x))) ∧ Below W.heap.size W w' := by
 obtain ⟨l1, l2, l3, l4, l5⟩ := xGt hk.vc
 have h1 := hk.h
 have h2 := hk.u
 have h3 := hk.m
 exact encode_any x.1 x.2 W (Lib.tabBelow_of_tabIs (xBx hT hb)) hm (xFd hk) (by omega) (by omega) (by omega)
theorem key_ok {c : Con} {x : SQ} (hk : SOk c x.1) : (tBy (txt x)).size ≤ maxLen := by
 obtain ⟨l1, l2, l3, l4, l5⟩ := xGt hk.vc
 have h1 := hk.h
 have h2 := hk.u
 have h3 := hk.m
 have := txt_len (xFd hk) (by omega) (by omega) (by omega)
 rw [tBy_size]
 unfold txt maxLen
 omega
theorem Tab.get_ {F : List SQ} {g : List UInt8 → Option Value} (h : Tab F g) (t : List UInt8) : ∃ y : SQ, (g t).getD (.agg zS) = .agg (stA y.1 y.2) ∧ (∀ x ∈ F, txt x = t → y = x) := by
 cases e : g t with
 | none => exact ⟨(Sta.zero, Qm.zero), rfl, fun x hx ht => by rw [← ht, h.at_ hx] at e; cases e⟩
 | some v =>
  obtain ⟨y, hy, ht, rfl⟩ := (h.g t v).1 e
  refine ⟨y, rfl, fun x hx hxt => ?_⟩
  obtain ⟨i, hi⟩ := List.getElem?_of_mem hy
  obtain ⟨j, hj⟩ := List.getElem?_of_mem hx
  obtain ⟨hi1, hi2⟩ := qzM hi
  obtain ⟨hj1, hj2⟩ := qzM hj
  have hp := List.pairwise_iff_getElem.1 h.nd
  rcases Nat.lt_trichotomy i j with hij | hij | hij
  ·exact absurd (by rw [hi2, hj2, ht, hxt]) (hp i j hi1 hj1 hij)
  ·subst hij; rw [← hi2, ← hj2]
  ·exact absurd (by rw [hi2, hj2, ht, hxt]) (hp j i hj1 hi1 hij)
theorem meet_any (c : Con) (x : SQ) (P0 : Nat → Prop) (bF bN cF cN : Nat) (F N : List SQ) (w : World) (hT : Lx w) (h2 : Two P0 bF bN cF cN F N w) (hx : Far (pQ P0 bF bN) w x) (hk : SOk c x.1) (nF : F.length ≤ 100000000) :
  Calls Tryz.prog 75 #[.agg (stA x.1 x.2), .pointer (some ⟨cF, 0, none⟩), .pointer (some ⟨cN, 0, none⟩)] w fun e w' => e = .returned (.tuple #[]) ∧ Kept w w' (fun b => b = bF ∨ b = bN) ∧ Two P0 bF bN cF cN (xB1 F F x) (xB1 F N x) w' := by
 have HE := qzL (fun W (hb : Below w.heap.size w W) => enc_ok hT x hk W hb (hx.now.then_ hb))
 have HX := qzL hx
 have H2 := qzL h2
 have hsz := key_ok hk
 obtain ⟨S, hS⟩ : ∃ S, tBy (txt x) = S := ⟨_, rfl⟩
 have hSl : Hid (S.data.toList = txt x) := by unfold Hid; rw [← hS]; rfl
 rw [hS] at HE hsz
 obtain ⟨o, ho⟩ : ∃ o, xFr F x = o := ⟨_, rfl⟩
 have HO := qzL ho
 clear hT h2 hx hk hS ho
 go_enter Tryz.func75, Tryz.ntmps75
 go_upto_region 1 with (fail)
 refine xAi ?_
 intro X hX
 have gs : Blk X w.heap.size 47 (stA x.1 x.2) := by rw [hX]; exact Blk.new _ _ _
 have HB : Hid (Below w.heap.size w X) := by unfold Hid; rw [hX]; (repeat first | exact Below.refl _ _ | refine xAc ?_ _)
 obtain ⟨bs, ebs⟩ : ∃ b, w.heap.size = b := ⟨_, rfl⟩
 have lbs : Hid (w.heap.size = bs) := ebs
 rw [ebs] at gs ⊢
 clear hX ebs
 go_upto_region 2 with (first | (refine xAf (by rfl) 47 _ rfl bs rfl 47 _ gs ⟨_, Tryz.underlying47⟩ (by kernel_rfl) ?_; simp only [Act.put, qzG, qzH, qzI]) | (go_at_call 56; (with_reducible refine (HE.out X HB.out).mono ?_); rintro e w1 ⟨rfl, hb1⟩))
 have HB1 := qzL (xAa HB.out hb1)
 have GS := qzL (gs.then_ hb1)
 have H21 := qzL (H2.out.then_ HB1.out)
 clear gs HB hb1 HE
 obtain ⟨gF, f1, f2⟩ := H21.out.f
 have cF0 : w1.cell? ⟨cF, 0, none⟩ = some (.map (some bF)) := H21.out.cf.cell 0
 obtain ⟨y, hy, _⟩ := f2.get_ (txt x)
 have hlk : (Instr.lookup 114 (.map (some bF)) (.string S) true).run Tryz.prog w1 = .ok (.tuple #[.agg (stA y.1 y.2), .bool o]) w1 := by
  have h := MapS.look (t := 114) (e := 47) f1 Tryz.underlying9 Tryz.underlying114 (z := .agg zS) (by kernel_rfl) hsz
  rw [hSl.out, hy, f2.old, HO.out] at h
  exact h
 clear hy f1 f2
 go_upto_region 3 with (refine xAh rfl 47 _ _ rfl w1.heap.size 47 [] zS.toList [] (stA y.1 y.2).toList rfl rfl (Blk.new _ _ _) rfl (by kernel_rfl) (by simp [Value.oneCell']) ?_; intro w2 g2 u2)
 have hb2 : Below w1.heap.size w1 w2 := (wa1 _ _).trans (u2.b _ (Nat.le_refl _))
 have H22 := qzL (H21.out.then_ hb2)
 have HB2 := qzL (xAa HB1.out hb2)
 have gs2 := GS.out.then_ hb2
 clear hlk cF0 GS g2 u2 hb2 H21 HB1
 cases o with
 | true =>
  go_wp2
  refine bodyPost_end (results_none rfl _ _ _) rfl ?_
  refine ⟨rfl, Kept.of_below HB2.out, ?_⟩
  unfold xB1
  rw [HO.out, if_pos rfl, if_pos rfl]
  exact H22.out
 | false =>
  go_upto_region 4 with (fail)
  obtain ⟨gF, f1, f2⟩ := H22.out.f
  obtain ⟨gN, n1, n2⟩ := H22.out.n
  have HF1 := qzL f1
  have HF2 := qzL f2
  have HN1 := qzL n1
  have HN2 := qzL n2
  have HNE := qzL H22.out.ne
  have HNF : Hid (¬ (cF = bF ∨ cF = bN)) := fun e => e.elim (Blk.ne_map H22.out.cf f1) (Blk.ne_map H22.out.cf n1)
  have HNN : Hid (¬ (cN = bF ∨ cN = bN)) := fun e => e.elim (Blk.ne_map H22.out.cn f1) (Blk.ne_map H22.out.cn n1)
  have HNS : Hid (¬ (bs = bF ∨ bs = bN)) := fun e => e.elim (Blk.ne_map gs2 f1) (Blk.ne_map gs2 n1)
  have HGS := qzL gs2
  clear f1 f2 n1 n2 gs2
  refine xBf (fun w' => Hid (Kept w2 w' (fun b => b = bF ∨ b = bN))) [0, 1, 2, 3, 4, 5, 6] [7] (by kernel_rfl) (by kernel_rfl) pO (qzL (Kept.of_below (Below.drew (Below.refl _ _)))) (fun hdir hsel hpan hHeld => ?_)
  refine xAd (i := 0) (oi := ⟨some 17, _, _, _, _, _⟩) (v := .map (some bF)) hdir hsel hpan rfl (by kernel_rfl) (by kernel_rfl) (by kernel_rfl) (Or.inl ⟨by rfl, fun w hw => by have hc := (H22.out.cf.kept hw.out HNF.out).cell 0; go_simp⟩) (by assumption) ?_
  try simp only [Act.put, qzG, qzI, qzH]
  refine xAd (i := 1) (oi := ⟨some 18, _, _, _, _, _⟩) (v := .string S) hdir hsel hpan rfl (by kernel_rfl) (by kernel_rfl) (by kernel_rfl) (Or.inl ⟨by rfl, fun w hw => by rfl⟩) (by assumption) ?_
  try simp only [Act.put, qzG, qzI, qzH]
  refine xAd (i := 2) (oi := ⟨some 19, _, _, _, _, _⟩) (v := .map (some bN)) hdir hsel hpan rfl (by kernel_rfl) (by kernel_rfl) (by kernel_rfl) (Or.inl ⟨by rfl, fun w hw => by have hc := (H22.out.cn.kept hw.out HNN.out).cell 0; go_simp⟩) (by assumption) ?_
  try simp only [Act.put, qzG, qzI, qzH]
  refine xAd (i := 3) (oi := ⟨some 20, _, _, _, _, _⟩) (v := .string S) hdir hsel hpan rfl (by kernel_rfl) (by kernel_rfl) (by kernel_rfl) (Or.inl ⟨by rfl, fun w hw => by rfl⟩) (by assumption) ?_
  try simp only [Act.put, qzG, qzI, qzH]
  refine xAd (i := 4) (oi := ⟨some 21, _, _, _, _, _⟩) hdir hsel hpan rfl (by kernel_rfl) (by kernel_rfl) (by kernel_rfl) (yieldsIf_row (by rfl) 47 _ rfl bs rfl 47 _ (fun w hw => HGS.out.kept hw.out HNS.out) ⟨_, Tryz.underlying47⟩ (by kernel_rfl)) (by assumption) ?_
  try simp only [Act.put, qzG, qzI, qzH]
  refine xAd (i := 5) (oi := ⟨some 22, _, _, _, _, _⟩) hdir hsel hpan rfl (by kernel_rfl) (by kernel_rfl) (by kernel_rfl) (yieldsIf_row (by rfl) 47 _ rfl bs rfl 47 _ (fun w hw => HGS.out.kept hw.out HNS.out) ⟨_, Tryz.underlying47⟩ (by kernel_rfl)) (by assumption) ?_
  try simp only [Act.put, qzG, qzI, qzH]
  refine xAt (rs := [6]) (by kernel_rfl) (by simp) ?_
  refine AllHB.cons (by kernel_rfl) (o := ⟨none, _, _, _, _, _⟩) rfl (fun K hK => ?_) AllHB.nil
  rw [if_pos (by rfl)]
  obtain ⟨V1, e1, m1, u1⟩ := (HF1.out.keep (w' := w2.drew) rfl).put (t := 114) (e := 47) Tryz.underlying9 Tryz.underlying114 (by unfold maxLen; omega) hsz (.agg (stA x.1 x.2))
  go_simp
  rw [hSl.out] at m1
  have HM1 := qzL m1
  have HU1 := qzL u1
  have HK1 : Hid (Kept w2 V1 (fun b => b = bF ∨ b = bN)) := (Kept.of_below (Below.drew (Below.refl _ _))).trans (Kept.of_upd u1 (.inl rfl))
  clear e1 m1 u1
  refine hK.out _ _ HK1 (fun hHeld2 => ?_)
  clear hK K hHeld
  have hHeld := hHeld2
  clear hHeld2
  try simp only [Act.put, qzG, qzI, qzH]
  refine xA6 (by kernel_rfl) (by kernel_rfl) ?_
  clear hdir hsel hpan
  simp only [xAn, qzA, qzB, qzC, qzD, qzE, qzF]
  obtain ⟨V2, e2, m2, u2⟩ := ((HN1.out.keep (w' := w2.drew) rfl).keep (HU1.out.f bN (fun e => HNE.out e.symm))).put (t := 114) (e := 47) Tryz.underlying9 Tryz.underlying114 (by unfold maxLen; omega) hsz (.agg (stA x.1 x.2))
  rw [hSl.out] at m2
  have hall := new_all HO.out
  have hk2 : Kept w2 V2 (fun b => b = bF ∨ b = bN) := HK1.out.trans (Kept.of_upd u2 (.inr rfl))
  have hfar := HX.out.kept ((Kept.of_below HB2.out).trans hk2).pQ
  have HT2 : Hid (Two P0 bF bN cF cN (F ++ [x]) (N ++ [x]) V2) := by
   refine ⟨H22.out.cf.kept hk2 HNF.out, H22.out.cn.kept hk2 HNN.out, ⟨_, ?_, HF2.out.put hall⟩, ⟨_, ?_, HN2.out.put fun y hy => hall y (H22.out.sub y hy)⟩, HNE.out, fun z hz => ?_, fun z hz => ?_⟩
   ·rw [List.length_append]; exact HM1.out.keep (u2.f bF HNE.out)
   ·rw [List.length_append]; exact m2
   ·rcases List.mem_append.1 hz with hz | hz
    ·exact (H22.out.far z hz).kept hk2.pQ
    ·rw [List.mem_singleton.1 hz]; exact hfar
   ·rcases List.mem_append.1 hz with hz | hz
    ·exact List.mem_append_left _ (H22.out.sub z hz)
    ·exact List.mem_append_right _ hz
  have HK2 := qzL ((Kept.of_below HB2.out).trans hk2)
  clear m2 u2 hall hk2 hfar H22 H2 HX HB2 HF1 HF2 HN1 HN2 HM1 HU1 HK1 hHeld
  go_wp2
  refine bodyPost_end (results_none rfl _ _ _) rfl ?_
  refine ⟨rfl, HK2.out, ?_⟩
  unfold xB1
  rw [HO.out, if_neg (by decide), if_neg (by decide)]
  exact HT2.out
end Go.Proofs.YtffceokjeonpcaaGreatDoor
