/- Contracts of functions and plain laws, joined: Sw, Wt1, Wt2. -/
import Derived.Test.YtginnonjdbpamaaGreatDoorMb10
import Derived.Test.YtginnonjdbpamaaGreatDoorMb1
import Derived.Test.YtginnonjdbpamaaGreatDoorMb2
import Derived.Lib.OthersKept
import Derived.Lib.AppendIntMem
import Derived.ArgAppend
/- A state that is being changed: the struct 'work' in memory; the effects on one clause. -/
namespace Go.Proofs.YtginnonjdbpamaaGreatDoor
open Go.RowKit
theorem wpList_done {P : Program} {ops : Array Oper} {Q : Exit → Act → World → Prop} {a : Act} {w : World} (h : Q .normal a w) : wpList P ops Q [] a w := h
structure Kept (w w' : World) (p : Nat → Prop) : Prop where
 b : ∀ B, (∀ x, p x → B ≤ x) → B ≤ w.heap.size → Below B w w'
 k : ∀ x, x < w.heap.size → ¬ p x → w'.heap[x]? = w.heap[x]?
section
variable {w a w' : World} {p q : Nat → Prop}
theorem Kept.size (h : Kept w w' p) : w.heap.size ≤ w'.heap.size := (h.b 0 (fun _ _ => Nat.zero_le _) (Nat.zero_le _)).size
theorem Kept.trans (h : Kept w a p) (k : Kept a w' p) : Kept w w' p :=
 ⟨fun B hB hs => (h.b B hB hs).trans (k.b B hB (Nat.le_trans hs h.size)), fun x hx hp => (k.k x (Nat.lt_of_lt_of_le hx h.size) hp).trans (h.k x hx hp)⟩
theorem Kept.of_below (h : Below w.heap.size w w') : Kept w w' p := ⟨fun _ _ hs => h.mono hs, fun x hx _ => h.block x hx⟩
theorem Kept.of_upd {g : Nat} (h : Upd w w' g) (hp : p g) : Kept w w' p := ⟨fun _ hB _ => h.b _ (hB g hp), fun x _ hx => h.f x fun e => hx (e ▸ hp)⟩
theorem Kept.weak (h : Kept w w' p) (hpq : ∀ x, p x → q x) : Kept w w' q := ⟨fun B hB hs => h.b B (fun x hx => hB x (hpq x hx)) hs, fun x hx hq => h.k x hx fun e => hq (hpq x e)⟩
theorem Kept.refl (w : World) (p : Nat → Prop) : Kept w w p := Kept.of_below (Below.refl _ _)
theorem Kept.setCell {g o : Nat} {v : Value} (h : Kept w a p) (hp : p g) : Kept w (a.setCell ⟨g, o, none⟩ v) p := h.trans (Kept.of_upd ((Upd.refl a g).setCell o v) hp)
theorem Blk.kept {g : Nat} {t : TypeId} {cs : Array Value} (h : Blk w g t cs) (hk : Kept w w' p) (hg : ¬ p g) : Blk w' g t cs := (hk.k g h.lt hg).trans h
theorem Own.kept_ {α : Type} {B : Nat} {T : TypeId} {size : Nat} {enc : α → List Value} {g n cap : Nat} {xs : List α} (h : Own w B T size enc (.slice (some ⟨g, 0, none⟩) n cap) xs) (hk : Kept w w' p) (hg : ¬ p g) : Own w' B T size enc (.slice (some ⟨g, 0, none⟩) n cap) xs := by
 refine ⟨h.1, ?_⟩
 rcases h.2 with ⟨h2, _⟩ | ⟨g', cap', cur, hv, hg', hh, r⟩
 ·cases h2
 ·have e : g' = g := by injection hv with h1; injection h1 with h1; injection h1 with h1; exact h1.symm
  exact .inr ⟨g', cap', cur, hv, hg', by rw [hk.k g' (Array.getElem?_eq_some_iff.1 hh).1 (by rw [e]; exact hg)]; exact hh, r⟩
end
theorem Own.blkT {α : Type} {w : World} {B : Nat} {T : TypeId} {size : Nat} {enc : α → List Value} {g n cap : Nat} {xs : List α} (h : Own w B T size enc (.slice (some ⟨g, 0, none⟩) n cap) xs) : ∃ cs, Blk w g T cs := by
 rcases h.2 with ⟨h1, hl⟩ | ⟨g', cap', cur, hv', hg, hh, _⟩
 ·cases h1
 ·cases hv'
  exact ⟨_, hh⟩
structure Qn where
 h : Nat
 hc : Nat
 u : Nat
 uc : Nat
 m : Nat
 mc : Nat
abbrev Qn.q (q : Qn) : Qm := ⟨some ⟨q.h, 0, none⟩, q.hc, some ⟨q.u, 0, none⟩, q.uc, some ⟨q.m, 0, none⟩, q.mc⟩
abbrev wkA (c : Con) (m : Cm) (s : Sta) (q : Qn) : Array Value := #[.int .i64 c.par, .slice m.h c.hold.length m.hc, .slice m.u c.un.length m.uc, .slice m.a c.ac.length m.ac, .slice m.k c.cl.length m.kc, .int .i64 c.days, .slice m.o c.off.length m.oc,
 .int .i64 s.day, .slice (some ⟨q.h, 0, none⟩) s.hol.length q.hc, .slice (some ⟨q.u, 0, none⟩) s.used.length q.uc, .slice (some ⟨q.m, 0, none⟩) s.marks.length q.mc]
structure Wk (w0 w : World) (b : Nat) (c : Con) (m : Cm) (s : Sta) (q : Qn) : Prop where
 g : Blk w b 113 (wkA c m s q)
 oh : Own w w0.heap.size 3 1 eI (.slice (some ⟨q.h, 0, none⟩) s.hol.length q.hc) s.hol
 ou : Own w w0.heap.size 4 1 eB (.slice (some ⟨q.u, 0, none⟩) s.used.length q.uc) s.used
 om : Own w w0.heap.size 46 5 eM (.slice (some ⟨q.m, 0, none⟩) s.marks.length q.mc) s.marks
 hb : Below w0.heap.size w0 w
 lb : w0.heap.size ≤ b
 cn : Cont w0 c m
 lm : s.marks.length = c.cl.length
 nh : s.hol.length ≤ 1000000
 nu : s.used.length ≤ 1000000
section
variable {w0 w w' : World} {b : Nat} {c : Con} {m : Cm} {s : Sta} {q : Qn}
theorem blk_ne' {w : World} {a b : Nat} {t t' : TypeId} {cs cs' : Array Value} (h : Blk w a t cs) (h' : Blk w b t' cs') (ht : t ≠ t') : a ≠ b := by
 rintro rfl
 have h2 := h.symm.trans h'
 injection h2 with h2
 injection h2 with _ h3 _
 exact ht h3
theorem Wk.bm (h : Wk w0 w b c m s q) : b ≠ q.m := by obtain ⟨_, hb⟩ := h.om.blkT; exact blk_ne' h.g hb (by decide)
theorem Wk.bh (h : Wk w0 w b c m s q) : b ≠ q.h := by obtain ⟨_, hb⟩ := h.oh.blkT; exact blk_ne' h.g hb (by decide)
theorem Wk.bu (h : Wk w0 w b c m s q) : b ≠ q.u := by obtain ⟨_, hb⟩ := h.ou.blkT; exact blk_ne' h.g hb (by decide)
theorem Wk.hm (h : Wk w0 w b c m s q) : q.h ≠ q.m := by obtain ⟨_, ha⟩ := h.oh.blkT; obtain ⟨_, hb⟩ := h.om.blkT; exact blk_ne' ha hb (by decide)
theorem Wk.um (h : Wk w0 w b c m s q) : q.u ≠ q.m := by obtain ⟨_, ha⟩ := h.ou.blkT; obtain ⟨_, hb⟩ := h.om.blkT; exact blk_ne' ha hb (by decide)
theorem Wk.hu (h : Wk w0 w b c m s q) : q.h ≠ q.u := by obtain ⟨_, ha⟩ := h.oh.blkT; obtain ⟨_, hb⟩ := h.ou.blkT; exact blk_ne' ha hb (by decide)
theorem Wk.then_ (h : Wk w0 w b c m s q) (hb : Below w.heap.size w w') : Wk w0 w' b c m s q :=
 ⟨h.g.then_ hb, h.oh.below hb, h.ou.below hb, h.om.below hb, below_then h.hb hb, h.lb, h.cn, h.lm, h.nh, h.nu⟩
theorem Wk.setM (h : Wk w0 w b c m s q) {i j : Nat} {x y : Mk} {v : Value} (hx : s.marks[i]? = some x) (hj : j < 5) (hy : eM y = (eM x).set j v) : Wk w0 (w.setCell ⟨q.m, i * 5 + j, none⟩ v) b c m { s with marks := s.marks.set i y } q := by
 have hbm := h.bm
 have hhm := h.hm
 have hum := h.um
 have e : (s.marks.set i y).length = s.marks.length := List.length_set
 refine ⟨?_, h.oh.setNe (by intro k hk; cases hk; exact hhm) _, h.ou.setNe (by intro k hk; cases hk; exact hum) _, ?_, h.hb.setCell (p := ⟨q.m, _, none⟩) h.om.lt_.1 _, h.lb, h.cn, e.trans h.lm, h.nh, h.nu⟩
 ·have h2 := h.g.far (p := ⟨q.m, i * 5 + j, none⟩) hbm v
  unfold wkA at h2 ⊢
  rw [show ({ s with marks := s.marks.set i y } : Sta).marks.length = s.marks.length from e]
  exact h2
 ·have h2 := h.om.setAt eM_len rfl hx hj hy
  rw [show ({ s with marks := s.marks.set i y } : Sta).marks.length = s.marks.length from e]
  exact h2
theorem Wk.mark (h : Wk w0 w b c m s q) {i : Nat} {x : Mk} (hx : s.marks[i]? = some x) :
  (w.cell? ⟨q.m, i * 5, none⟩ = some (.int .i64 x.st) ∧ w.frozen? ⟨q.m, i * 5, none⟩ = false) ∧ (w.cell? ⟨q.m, i * 5 + 1, none⟩ = some (.int .i64 x.left) ∧ w.frozen? ⟨q.m, i * 5 + 1, none⟩ = false) ∧ (w.cell? ⟨q.m, i * 5 + 2, none⟩ = some (.int .i64 x.got) ∧ w.frozen? ⟨q.m, i * 5 + 2, none⟩ = false) ∧
   (w.cell? ⟨q.m, i * 5 + 3, none⟩ = some (.int .i64 x.brr) ∧ w.frozen? ⟨q.m, i * 5 + 3, none⟩ = false) ∧ (w.cell? ⟨q.m, i * 5 + 4, none⟩ = some (.bool x.pau) ∧ w.frozen? ⟨q.m, i * 5 + 4, none⟩ = false) :=
 ⟨h.om.getAt eM_len rfl hx (j := 0) (by omega), h.om.getAt eM_len rfl hx (j := 1) (by omega), h.om.getAt eM_len rfl hx (j := 2) (by omega), h.om.getAt eM_len rfl hx (j := 3) (by omega), h.om.getAt eM_len rfl hx (j := 4) (by omega)⟩
theorem Wk.nm (h : Wk w0 w b c m s q) : s.marks.length ≤ 1000000 := by rw [h.lm]; exact h.cn.nk
end
abbrev Sta.wm (s : Sta) (ms : List Mk) : Sta := { s with marks := ms }
def Eff (w0 w : World) (b : Nat) (c : Con) (m : Cm) (s : Sta) (q : Qn) (i : Nat) (y : Mk) (e : Ending) (w' : World) : Prop := e = .returned (.tuple #[]) ∧ Wk w0 w' b c m { s with marks := s.marks.set i y } q ∧ Kept w w' (· = q.m)
theorem idx_own {t : TypeId} {size g n cap : Nat} {i : Nat} (hi : i < n) (ht : Tryz.prog.underlying t = some (.slice (Tryz.prog.elem t))) (hs : ∀ W : World, (sizeOf (Tryz.prog.elem t)).run Tryz.prog W = .ok size W) :
  ∀ W : World, (Instr.indexAt t (.slice (some ⟨g, 0, none⟩) n cap) (.int .i64 (i : Nat))).run Tryz.prog W = .ok (.pointer (some ⟨g, i * size, none⟩)) W := by
 intro W
 have h := idx_at (t := t) (size := size) (cap := cap) (len := n) (A := some ⟨g, 0, none⟩) rfl hi ht hs W
 rwa [Nat.zero_add] at h
set_option maxRecDepth 100000 in
set_option maxHeartbeats 6400000 in
theorem end_any (w0 : World) (b : Nat) (c : Con) (m : Cm) (s : Sta) (q : Qn) (i : Nat) (x : Mk) (st : Int) (w : World) (hW : Wk w0 w b c m s q) (hx : s.marks[i]? = some x) :
  Calls Tryz.prog 108 #[.pointer (some ⟨b, 0, none⟩), .int .i64 (i : Nat), .int .i64 st] w fun e w' => Eff w0 w b c m s q i (x.endS st) e w' := by
 have him : i < s.marks.length := (List.getElem?_eq_some_iff.1 hx).1
 have hix := fun W => idx_own (t := 41) (size := 5) (g := q.m) (cap := q.mc) him (by kernel_rfl) (fun W => by kernel_rfl) W
 have HW := Lib.hid hW
 have HX := Lib.hid hx
 have nm := hW.nm
 have k10 : w.cell? ⟨b, 10, none⟩ = some (.slice (some ⟨q.m, 0, none⟩) s.marks.length q.mc) := hW.g.cell 10
 clear hW hx
 go_enter Tryz.func108, Tryz.ntmps108
 have rg0 := cell_regrown k10
 refine wp_region_qp [11, 17] [0, 1, 2, 3, 4, 5, 6, 7, 8, 9, 10, 12, 13, 14, 15, 16, 18] [19, 20, 21, 22, 23, 24, 25, 26, 27] (by kernel_rfl) (by kernel_rfl) (by repeat (first | with_reducible refine panOk_then ?_ | with_reducible refine panOk_block ?_ | exact panOk_body)) ?_
 simp only [opsAt, List.getElem?_toArray, List.getElem?_cons_succ, List.getElem?_cons_zero, Option.toList_some, List.cons_append, List.nil_append]
 repeat (go_big_quiet_step (skip))
 refine wpQuiet_nil ?_
 intro X hw2
 have hbX := qt_world hw2
 clear hw2 rg0
 have hWX := HW.out.then_ hbX
 obtain ⟨⟨m0, f0⟩, ⟨m1, f1⟩, ⟨m2, f2⟩, ⟨m3, f3⟩, ⟨m4, f4⟩⟩ := hWX.mark HX.out
 have HX2 := Lib.hid hWX
 clear hWX
 go_wp2
 go_end0
 refine ⟨rfl, ?_, ?_⟩
 ·have h1 := HX2.out.setM (j := 0) (y := { x with st := st }) (v := .int .i64 st) HX.out (by omega) rfl
  have h2 := h1.setM (i := i) (j := 1) (x := { x with st := st }) (y := { x with st := st, left := 0 }) (v := .int .i64 0) (by simp [him]) (by omega) rfl
  have h3 := h2.setM (i := i) (j := 4) (x := { x with st := st, left := 0 }) (y := x.endS st) (v := .bool false) (by simp [him]) (by omega) rfl
  simpa using h3
 ·exact (((Kept.of_below (p := (· = q.m)) hbX).setCell rfl).setCell rfl).setCell rfl
end Go.Proofs.YtginnonjdbpamaaGreatDoor
/- The walk of validate.write: numbers with dots between them, appended to bytes of the call's own. -/
namespace Go.Proofs.YtginnonjdbpamaaGreatDoor
open Go.RowKit
def eY (c : UInt8) : List Value := [.int .u8 c.toNat]
theorem eY_len (c : UInt8) : (eY c).length = 1 := rfl
theorem flat_eY (l : List UInt8) : l.flatMap eY = Lib.byteCells l := by
 induction l with
 | nil => rfl
 | cons c l ih => rw [List.flatMap_cons, ih]; rfl
theorem one_byte (c : UInt8) : ∀ u ∈ eY c, u.oneCell' = true := by
 intro u hu
 simp only [eY, List.mem_cons, List.not_mem_nil, or_false] at hu
 rw [hu]; rfl
theorem zero_u8 : (Tryz.prog.info? 5).map (fun i => (i.zero, i.size, i.bytes)) = some (some (.int .u8 0), 1, 1) := by kernel_rfl
theorem itoa_l21 {n : Int} (h : J64 n) : (Lib.itoa n).length ≤ 21 := Lib.itoa_length_le n h.1 h.2
theorem Blk.others {w w' : World} {g : Nat} {t e : TypeId} {cs : Array Value} {b : Option Nat} (h : Blk w g t cs) (k : Lib.OthersKept e b w w') (hb : some g ≠ b) (ht : t ≠ e) : Blk w' g t cs :=
 k g _ h hb fun c fz hc => by injection hc with _ h2 _; exact ht h2
theorem own_kind {α : Type} {w : World} {B : Nat} {T : TypeId} {size : Nat} {enc : α → List Value} {v : Value} {xs : List α} (h : Own w B T size enc v xs) : ∀ g, v.ownBlock = some g → ∃ c fz, w.heap[g]? = some (.cells c T fz) := by
 intro g hg
 rcases h.2 with ⟨h5, _⟩ | ⟨g', cap, cur, hv, _, hh, _⟩
 ·rw [h5] at hg; cases hg
 ·rw [hv] at hg
  have e1 : g' = g := Option.some.inj hg
  rw [e1] at hh
  exact ⟨_, _, hh⟩
structure Yb (w0 w W : World) (v : Value) (xs : List UInt8) : Prop where
 o : Own W w0.heap.size 5 1 eY v xs
 b : Below w0.heap.size w0 W
 k : Lib.OthersKept 5 none w W
theorem Yb.blk {w0 w W : World} {v : Value} {xs : List UInt8} (h : Yb w0 w W v xs) {g : Nat} {t : TypeId} {cs : Array Value} (hb : Blk w g t cs) (ht : t ≠ 5) : Blk W g t cs := hb.others h.k (by simp) ht
theorem Yb.alloc {w0 w W : World} {v : Value} {xs : List UInt8} (h : Yb w0 w W v xs) (o : Obj) : Yb w0 w (W.alloc o) v xs := ⟨h.o.alloc _, h.b.alloc h.b.size _, h.k.alloc _⟩
theorem Yb.grown {w0 w W W' : World} {v v' : Value} {xs ys : List UInt8} (h : Yb w0 w W v xs) (ho : Own W' w0.heap.size 5 1 eY v' ys) (hb : Below w0.heap.size W W') (hg : W.grownBy W' v.ownBlock) : Yb w0 w W' v' ys := ⟨ho, h.b.trans hb, h.k.grown hg (own_kind h.o)⟩
theorem yb_int (w0 : World) (hT : Lib.TabBelow Tryz.prog w0.heap.size w0 "internal/strconv.uint64pow10" .u64 Lib.pow10Tab) {w W : World} {v : Value} {xs : List UInt8} (h : Yb w0 w W v xs) (hl : xs.length ≤ 900000) (n : Int) (hn : J64 n) :
  Calls Tryz.prog 71 #[v, .int .i64 n, .int .i64 10] W fun e w' => ∃ v', e = .returned v' ∧ Yb w0 w w' v' (xs ++ Lib.itoa n) := by
 have ho : W.ownsRow w0.heap.size 5 1 v xs.length (xs.flatMap eY) := h.o
 refine (Tryz.strconv_AppendInt_10 w0.heap.size xs.length n hn.1 hn.2 v (xs.flatMap eY) W ho h.b.size (by omega) (hT.on h.b)).mono ?_
 rintro e w' ⟨v', rfl, ho', hb', hk'⟩
 refine ⟨v', rfl, ⟨?_, h.b.trans hb', h.k.trans hk'⟩⟩
 unfold Own
 have h1 : (xs ++ Lib.itoa n).length = xs.length + (Lib.itoa n).length := List.length_append
 have h2 : (xs ++ Lib.itoa n).flatMap eY = xs.flatMap eY ++ Lib.byteCells (Lib.itoa n) := by rw [← flat_eY (Lib.itoa n)]; exact List.flatMap_append
 rw [h1, h2]
 exact ho'
def dotT : List Int → List UInt8
 | [] => []
 | n :: l => Lib.itoa n ++ l.flatMap fun m => 46 :: Lib.itoa m
theorem dotT_snoc (l : List Int) (n : Int) : dotT (l ++ [n]) = (if l = [] then [] else dotT l ++ [46]) ++ Lib.itoa n := by
 cases l with
 | nil => simp [dotT]
 | cons a l =>
  rw [if_neg (by simp)]
  simp [dotT]
theorem dotT_len {l : List Int} (h : ∀ n ∈ l, J64 n) : (dotT l).length ≤ 22 * l.length := by
 have key : ∀ l : List Int, (∀ n ∈ l, J64 n) → (l.flatMap fun m => 46 :: Lib.itoa m).length ≤ 22 * l.length := by
  intro l
  induction l with
  | nil => intro _; simp
  | cons a l ih =>
   intro h
   have h1 := itoa_l21 (h a (by simp))
   have h2 := ih fun n hn => h n (List.mem_cons_of_mem _ hn)
   simp only [List.flatMap_cons, List.length_append, List.length_cons]
   omega
 cases l with
 | nil => simp [dotT]
 | cons a l =>
  have h1 := itoa_l21 (h a (by simp))
  have h2 := key l fun n hn => h n (List.mem_cons_of_mem _ hn)
  simp only [dotT, List.length_append, List.length_cons]
  omega
set_option maxRecDepth 100000 in
set_option maxHeartbeats 3200000 in
theorem write_any (w0 : World) (hT : Lib.TabBelow Tryz.prog w0.heap.size w0 "internal/strconv.uint64pow10" .u64 Lib.pow10Tab) (w : World) (v : Value) (xs : List UInt8) (A : Option Addr) (c : Nat) (ns : List Int) (hO : Own w w0.heap.size 5 1 eY v xs) (hB : Below w0.heap.size w0 w) (hl : xs.length ≤ 800000)
  (hA : Seg w w.heap.size 1 eI A ns) (hk : ∀ a, A = some a → ∃ cs, Blk w a.block 3 cs) (hns : ns.length ≤ 4) (hJ : ∀ n ∈ ns, J64 n) :
  Calls Tryz.prog 45 #[v, .slice A ns.length c] w fun e w' => ∃ v', e = .returned v' ∧ Yb w0 w w' v' (xs ++ dotT ns) := by
 obtain ⟨ri, hi, hz0, hz1, hz2⟩ := info_parts zero_u8
 have h0 : Hid (Yb w0 w w v (xs ++ dotT (ns.take 0))) := by
  rw [show xs ++ dotT (ns.take 0) = xs by simp [dotT]]
  exact ⟨hO, hB, Lib.OthersKept.refl _ _ _⟩
 have HA := Lib.hid hA
 have HK := Lib.hid hk
 have HJ := Lib.hid hJ
 have HT := Lib.hid hT
 have lB := hB.size
 clear hO hB hA hJ hT hk
 go_enter Tryz.func45, Tryz.ntmps45
 go_upto_region 2 with (fail)
 go_loopw [0, 9] (fun v y WR => ∃ i : Nat, y = .int .i64 i ∧ i ≤ ns.length ∧ Hid (Yb w0 w WR v (xs ++ dotT (ns.take i)))) (fun _ y _ => 2000 - (intOf y).toNat)
 case atStart => exact ⟨0, rfl, by omega, h0⟩
 case round =>
  clear h0
  obtain ⟨i, rfl, hi', hY⟩ := hrel
  by_cases hlt : i < ns.length
  case neg =>
   obtain rfl : i = ns.length := by omega
   have tl : decide (((ns.length : Nat) : Int) < ((ns.length : Nat) : Int)) = false := decide_eq_false (by omega)
   have hf := hY.out
   rw [List.take_length] at hf
   have HF := Lib.hid hf
   clear hf hY
   go_wp2
   go_ret
   exact ⟨_, rfl, HF.out⟩
  have tl : decide ((i : Int) < (ns.length : Int)) = true := decide_eq_true (by omega)
  obtain ⟨n, hn⟩ : ∃ n, ns[i]? = some n := ⟨_, List.getElem?_eq_getElem hlt⟩
  have hnJ := Lib.hid (HJ.out n (List.mem_of_getElem? hn))
  have hA1 : Seg wr wr.heap.size 1 eI A ns := by
   intro k x hx
   obtain ⟨b, off, e, hb, hc⟩ := HA.out k x hx
   obtain ⟨cs, hcs⟩ := HK.out _ e
   have h2 := hY.out.blk hcs (by decide)
   exact ⟨b, off, e, h2.lt, fun j v hv => (World.cell?_of_block (w := w) (w' := wr) (a := ⟨b, off + k * 1 + j, none⟩) (h2.trans hcs.symm)).trans (hc j v hv)⟩
  obtain ⟨b0, o0, eA0, hb0, hc0⟩ := segAt hA1 hn
  have hix := fun W => idx_at (t := 22) (size := 1) (cap := c) eA0 hlt (by kernel_rfl) (fun W => by kernel_rfl) W
  have d0 : wr.cell? ⟨b0, o0 + i, none⟩ = some (.int .i64 n) := by simpa using hc0 0 _ rfl
  simp only [Nat.mul_one] at hix
  have hlen : (xs ++ dotT (ns.take i)).length ≤ 800200 := by
   have := dotT_len (l := ns.take i) fun n hn => HJ.out n (List.mem_of_mem_take hn)
   rw [List.length_append]
   rw [List.length_take] at this
   omega
  have hsn : ns.take (i + 1) = ns.take i ++ [n] := by rw [List.take_add_one, hn]; rfl
  have HSN := Lib.hid hsn
  clear hc0 eA0 hA1 hn hsn
  by_cases hz : i = 0
  ·have tz : decide ((0 : Int) < (i : Int)) = false := decide_eq_false (by omega)
   have tz' : decide (0 < i) = false := decide_eq_false (by omega)
   have hd : Hid ((xs ++ dotT (ns.take i)) ++ Lib.itoa n = xs ++ dotT (ns.take (i + 1))) := by
    unfold Hid
    rw [HSN.out, dotT_snoc, hz]
    simp [dotT]
   have HAP := Lib.hid (yb_int w0 HT.out hY.out (by omega) n hnJ.out)
   rw [hd.out] at HAP
   have HZ := Lib.hid hz
   clear hz hd
   go_wp2_with (go_at_call 71; (with_reducible refine HAP.out.mono ?_); rintro e w5 ⟨v5, rfl, hY5⟩; have HY5 := Lib.hid hY5; clear hY5)
   go_roundw
   case rel => exact ⟨i + 1, by simp, by omega, HY5⟩
   case measure => simp [intOf]; omega
  ·have tz : decide ((0 : Int) < (i : Int)) = true := decide_eq_true (by omega)
   have tz' : decide (0 < i) = true := decide_eq_true (by omega)
   have hd : Hid (((xs ++ dotT (ns.take i)) ++ [46]) ++ Lib.itoa n = xs ++ dotT (ns.take (i + 1))) := by
    unfold Hid
    have hne : ns.take i ≠ [] := fun e => by have := congrArg List.length e; rw [List.length_take, List.length_nil] at this; omega
    rw [HSN.out, dotT_snoc, if_neg hne]
    simp
   have HD := hd
   obtain ⟨zs, hzs⟩ : ∃ zs, xs ++ dotT (ns.take i) = zs := ⟨_, rfl⟩
   rw [hzs] at hY hlen HD
   have hg1 : Blk (wr.alloc (.cells #[.int .u8 46] 5)) wr.heap.size 5 #[.int .u8 46] := Blk.new _ _ _
   have HYO := Lib.hid hY.out.o
   have lW : w0.heap.size ≤ wr.heap.size := hY.out.b.size
   clear hz hd hzs
   go_wp2_with (first | (at_builtin; go_loud (refine wpList_app _ rfl (.tmp 16) (.tmp 17) _ rfl w0.heap.size 5 ri _ 1 1 Tryz.underlying104 hi hz0 hz1 hz2 rfl (by omega) (by omega) eY eY_len one_byte _ zs rfl (HYO.out.alloc _) (by omega) wr.heap.size 1 (46 : UInt8) rfl hg1 (by simp; omega) ?_); intro v4 w4 hO4 hb4 hg4; have hY4 : Yb w0 w w4 v4 (zs ++ [46]) := (hY.out.alloc _).grown hO4 hb4 hg4; have HAP := Lib.hid (yb_int w0 HT.out hY4 (by rw [List.length_append, List.length_singleton]; omega) n hnJ.out); rw [HD.out] at HAP; clear hY4 hO4 hb4 hg4) | (go_at_call 71; (with_reducible refine HAP.out.mono ?_); rintro e w5 ⟨v5, rfl, hY5⟩; have HY5 := Lib.hid hY5; clear hY5))
   go_roundw
   case rel => exact ⟨i + 1, by simp, by omega, HY5⟩
   case measure => simp [intOf]; omega
end Go.Proofs.YtginnonjdbpamaaGreatDoor
/- The walk of validate.Encode. -/
namespace Go.Proofs.YtginnonjdbpamaaGreatDoor
open Go.RowKit
theorem blk_seg {α : Type} {w : World} {g : Nat} {T : TypeId} {size : Nat} {enc : α → List Value} {xs : List α} (he : ∀ x, (enc x).length = size) (h : Blk w g T (xs.flatMap enc).toArray) : Seg w w.heap.size size enc (some ⟨g, 0, none⟩) xs := fun k x hx => by
 refine ⟨g, 0, rfl, h.lt, fun j u hu => ?_⟩
 have hj : j < size := by rw [← he x]; exact (List.getElem?_eq_some_iff.1 hu).1
 rw [Nat.zero_add, h.cell, List.getElem?_toArray, getElem?_flatMap he xs k j x hx hj]
 exact hu
theorem wrN (w0 : World) (hT : Lib.TabBelow Tryz.prog w0.heap.size w0 "internal/strconv.uint64pow10" .u64 Lib.pow10Tab) {w W : World} {v : Value} {xs : List UInt8} (h : Yb w0 w W v xs) (hl : xs.length ≤ 800000) {g c : Nat} (ns : List Int) (hg : Blk W g 3 (ns.flatMap eI).toArray) (hn : ∀ n ∈ ns, J64 n) (h4 : ns.length ≤ 4) :
  Calls Tryz.prog 45 #[v, .slice (some ⟨g, 0, none⟩) ns.length c] W fun e w' => ∃ v', e = .returned v' ∧ Yb w0 w w' v' (xs ++ dotT ns) :=
 (write_any w0 hT W v xs (some ⟨g, 0, none⟩) c ns h.o h.b hl (blk_seg eI_len hg) (fun a e => by cases e; exact ⟨_, hg⟩) h4 hn).mono fun e w' ⟨v', h1, hY⟩ => ⟨v', h1, hY.o, hY.b, h.k.trans hY.k⟩
theorem wr1 (w0 : World) (hT : Lib.TabBelow Tryz.prog w0.heap.size w0 "internal/strconv.uint64pow10" .u64 Lib.pow10Tab) {w W : World} {v : Value} {xs : List UInt8} (h : Yb w0 w W v xs) (hl : xs.length ≤ 800000) {g c : Nat} (n : Int) (hg : Blk W g 3 #[.int .i64 n]) (hn : J64 n) :
  Calls Tryz.prog 45 #[v, .slice (some ⟨g, 0, none⟩) 1 c] W fun e w' => ∃ v', e = .returned v' ∧ Yb w0 w w' v' (xs ++ Lib.itoa n) := by
 have := wrN w0 hT h hl (c := c) [n] hg (fun x hx => by rw [List.mem_singleton.1 hx]; exact hn) (by simp)
 rwa [show dotT [n] = Lib.itoa n by simp [dotT]] at this
theorem wr4 (w0 : World) (hT : Lib.TabBelow Tryz.prog w0.heap.size w0 "internal/strconv.uint64pow10" .u64 Lib.pow10Tab) {w W : World} {v : Value} {xs : List UInt8} (h : Yb w0 w W v xs) (hl : xs.length ≤ 800000) {g c : Nat} (n1 n2 n3 n4 : Int) (hg : Blk W g 3 #[.int .i64 n1, .int .i64 n2, .int .i64 n3, .int .i64 n4]) (h1 : J64 n1) (h2 : J64 n2) (h3 : J64 n3) (h4 : J64 n4) :
  Calls Tryz.prog 45 #[v, .slice (some ⟨g, 0, none⟩) 4 c] W fun e w' => ∃ v', e = .returned v' ∧ Yb w0 w w' v' (xs ++ dotT [n1, n2, n3, n4]) :=
 wrN w0 hT h hl (c := c) [n1, n2, n3, n4] hg (fun x hx => by simp only [List.mem_cons, List.not_mem_nil, or_false] at hx; rcases hx with rfl | rfl | rfl | rfl <;> assumption) (by simp)
theorem wpList_y1 {w0 w W : World} {ops : Array Oper} {rest : List Oper} {o : Oper} {a : Act} {Q : Exit → Act → World → Prop} (hgd : o.guard = none) (s x : Operand)
  (ho : o.op = .call { callee := .builtin .append, args := #[s, x], argTypes := #[104, 104] }) (v : Value) (xs : List UInt8) (hs : a.eval s = v) (hY : Yb w0 w W v xs) (hl : xs.length ≤ 900000) (g c : Nat) (y : UInt8) (hx : a.eval x = .slice (some ⟨g, 0, none⟩) 1 c)
  (hblk : Blk W g 5 #[.int .u8 y.toNat]) (h : ∀ v' w', Yb w0 w w' v' (xs ++ [y]) → wpList Tryz.prog ops Q rest (a.put o.dst v') w') : wpList Tryz.prog ops Q (o :: rest) a W := by
 obtain ⟨ri, hi, hz0, hz1, hz2⟩ := info_parts zero_u8
 exact wpList_app _ hgd s x _ ho w0.heap.size 5 ri _ 1 1 Tryz.underlying104 hi hz0 hz1 hz2 rfl (by omega) (by omega) eY eY_len one_byte v xs hs hY.o (by omega) g c y hx hblk hY.b.size fun v' w' h1 h2 h3 => h v' w' (hY.grown h1 h2 h3)
theorem strNums (l : List UInt8) : (strOfNums (l.map fun x => (x.toNat : Int))).data.toList = l := by
 rw [strOfNums_data, List.map_map]
 conv => rhs; rw [← List.map_id l]
 apply List.map_congr_left
 intro x _
 simp
def tBy (l : List UInt8) : ByteArray := ⟨l.toArray⟩
theorem tBy_size (l : List UInt8) : (tBy l).size = l.length := by simp [tBy, ByteArray.size]
theorem tBy_list (l : List UInt8) : (tBy l).data.toList = l := rfl
theorem conv_bytes {P : Program} (w : World) (t e d : TypeId) (ht : P.underlying t = some (.slice e)) (he : P.underlying e = some (.int .u8)) (hd : P.underlying d = some .string) {B : Nat} {v : Value} {l : List UInt8} (h : Own w B e 1 eY v l) (hne : l ≠ []) :
  (Go.convert t d v).run P w = .ok (.string (tBy l)) w := by
 obtain ⟨A, c, rfl, hc, hs⟩ := h.seg eY_len
 obtain ⟨b, off, rfl, hb⟩ := hs.some_ (List.length_pos_iff.2 hne)
 have := run_convert_bytes_arg (P := P) w t e ht he b off l.length c (l.map fun x => (x.toNat : Int)) (by simp) (fun i hi => by
  obtain ⟨b', off', e', _, hx⟩ := hs i l[i] (List.getElem?_eq_getElem hi)
  injection e' with e'
  injection e' with e1 e2
  rw [e1, e2]
  have h1 := hx 0 (.int .u8 (l[i].toNat : Int)) rfl
  rw [Nat.mul_one, Nat.add_zero] at h1
  rw [h1]
  simp [List.getD, List.getElem?_map, List.getElem?_eq_getElem hi]) d hd
 rw [this]
 congr 2
 apply ByteArray.ext
 apply Array.toList_inj.1
 exact strNums l
theorem holT_len {l : List Int} (h : ∀ n ∈ l, J64 n) : (holT l).length ≤ 22 * l.length := by
 induction l with
 | nil => simp [holT]
 | cons a l ih =>
  have h1 := itoa_l21 (h a (by simp))
  have h2 := ih fun n hn => h n (List.mem_cons_of_mem _ hn)
  have e : holT (a :: l) = (Lib.itoa a ++ [44]) ++ holT l := rfl
  rw [e]
  simp only [List.length_append, List.length_cons, List.length_nil]
  omega
theorem mkT_len {l : List Mk} (h : ∀ m ∈ l, m.I64) : (mkT l).length ≤ 90 * l.length := by
 induction l with
 | nil => simp [mkT]
 | cons a l ih =>
  have ha := h a (by simp)
  have h1 := itoa_l21 ha.st
  have h2 := itoa_l21 ha.left
  have h3 := itoa_l21 ha.got
  have h4 := itoa_l21 ha.brr
  have h5 := ih fun n hn => h n (List.mem_cons_of_mem _ hn)
  have e : mkT (a :: l) = a.text ++ mkT l := rfl
  have h6 : (if a.pau then [112] else [] : List UInt8).length ≤ 1 := by cases a.pau <;> simp
  rw [e]
  unfold Mk.text
  simp only [List.length_append, List.length_cons, List.length_nil]
  omega
theorem dot_mk (m : Mk) : dotT [m.st, m.left, m.got, m.brr] ++ ((if m.pau then [112] else []) ++ [44]) = m.text := by
 unfold Mk.text
 simp [dotT]
theorem Yb.here {w0 w W : World} {v : Value} {xs : List UInt8} (h : Yb w0 w W v xs) : Yb w0 W W v xs := ⟨h.o, h.b, Lib.OthersKept.refl _ _ _⟩
theorem Yb.back {w0 w W W' : World} {v v' : Value} {xs ys : List UInt8} (h : Yb w0 w W v xs) (h' : Yb w0 W W' v' ys) : Yb w0 w W' v' ys := ⟨h'.o, h'.b, h.k.trans h'.k⟩
theorem yb_ne {w0 w W : World} {v : Value} {xs : List UInt8} (h : Yb w0 w W v xs) {g : Nat} {t : TypeId} {cs : Array Value} (hb : Blk w g t cs) (ht : t ≠ 5) (i : Nat) : W.cell? ⟨g, i, none⟩ = cs[i]? := (h.blk hb ht).cell i
set_option maxRecDepth 100000 in
set_option maxHeartbeats 6400000 in
theorem encode_any (s : Sta) (q : Qm) (w : World) (hT : Lib.TabBelow Tryz.prog w.heap.size w "internal/strconv.uint64pow10" .u64 Lib.pow10Tab) (hS : Stm w s q) (hI : s.I64) (nh : s.hol.length ≤ 5000) (nu : s.used.length ≤ 5000) (nm : s.marks.length ≤ 5000) :
  Calls Tryz.prog 21 #[.agg (stA s q)] w fun e w' => e = .returned (.string (tBy s.text)) ∧ Below w.heap.size w w' := by
 have HS := Lib.hid hS
 have HI := Lib.hid hI
 have HT := Lib.hid hT
 have ld := itoa_l21 hI.day
 clear hS hI hT
 go_enter Tryz.func21, Tryz.ntmps21
 go_upto_region 1 with (fail)
 refine name_wp ?_
 intro X hX
 have gs : Blk X w.heap.size 43 (stA s q) := by rw [hX]; exact Blk.new _ _ _
 have HB : Hid (Below w.heap.size w X) := by rw [hX]; exact wa1 _ _
 obtain ⟨bs, ebs⟩ : ∃ b, w.heap.size = b := ⟨_, rfl⟩
 have hbs : Hid (w.heap.size = bs) := ebs
 rw [ebs] at gs ⊢
 clear hX ebs
 have GS := Lib.hid gs
 have s0 : X.cell? ⟨bs, 0, none⟩ = some (.int .i64 s.day) := gs.cell 0
 have hY0 : Hid (Yb w X (X.alloc (.cells #[.int .i64 s.day] 3)) (.slice none 0 0) []) := ⟨Own.nil _ _ _ _ _, HB.out.alloc HB.out.size _, (Lib.OthersKept.refl _ _ _).alloc _⟩
 have HW1 := Lib.hid (wr1 w HT.out hY0.out (by simp) (c := 1) s.day (Blk.new X 3 #[.int .i64 s.day]) HI.out.day)
 go_upto_region 2 with (first | (go_at_call 45; (with_reducible refine HW1.out.mono ?_); rintro e w1 ⟨v1, rfl, hY1⟩; have HY1 := Lib.hid hY1; clear hY1) | (at_builtin; go_loud (refine wpList_y1 (w0 := w) (w := X) rfl (.tmp 13) (.tmp 14) rfl _ _ rfl (HY1.out.alloc _) (by rw [List.nil_append]; omega) w1.heap.size 1 59 rfl (Blk.new _ _ _) ?_); intro v2 w2 hY2; have HY2 := Lib.hid hY2; clear hY2))
 obtain ⟨P1, hP1⟩ : ∃ P, ([] : List UInt8) ++ Lib.itoa s.day ++ [59] = P := ⟨_, rfl⟩
 have l1 : P1.length ≤ 30 := by rw [← hP1]; simp only [List.length_append, List.length_cons, List.length_nil]; omega
 have HP1 := Lib.hid hP1
 rw [hP1] at HY2
 clear hP1 HW1 hY0 HY1 s0 gs
 have s1 : w2.cell? ⟨bs, 1, none⟩ = some (.slice q.h s.hol.length q.hc) := yb_ne HY2.out GS.out (by decide) 1
 go_upto_region 3 with (fail)
 clear s1
 go_loopw [3, 19] (fun v y WR => ∃ i : Nat, y = .int .i64 i ∧ i ≤ s.hol.length ∧ Hid (Yb w X WR v (P1 ++ holT (s.hol.take i)))) (fun _ y _ => 20000 - (intOf y).toNat)
 case atStart => exact ⟨0, rfl, by omega, by rw [show P1 ++ holT (s.hol.take 0) = P1 by simp [holT]]; exact HY2⟩
 case round =>
  clear HY2
  obtain ⟨i, rfl, hi', hY⟩ := hrel
  have hlen : (P1 ++ holT (s.hol.take i)).length ≤ 200000 := by
   have := holT_len (l := s.hol.take i) fun n hn => HI.out.hol n (List.mem_of_mem_take hn)
   rw [List.length_append]
   rw [List.length_take] at this
   omega
  by_cases hlt : i < s.hol.length
  case pos =>
   have tl : decide ((i : Int) < (s.hol.length : Int)) = true := decide_eq_true (by omega)
   obtain ⟨n, hn⟩ : ∃ n, s.hol[i]? = some n := ⟨_, List.getElem?_eq_getElem hlt⟩
   have hnJ := Lib.hid (HI.out.hol n (List.mem_of_getElem? hn))
   obtain ⟨b0, o0, eA0, hb0, hc0⟩ := segAt (HS.out.then_ hY.out.b).h hn
   have hix := fun W => idx_at (t := 22) (size := 1) (cap := q.hc) eA0 hlt (by kernel_rfl) (fun W => by kernel_rfl) W
   have d0 : wr.cell? ⟨b0, o0 + i, none⟩ = some (.int .i64 n) := by simpa using hc0 0 _ rfl
   simp only [Nat.mul_one] at hix
   have HSN : Hid (((P1 ++ holT (s.hol.take i)) ++ Lib.itoa n) ++ [44] = P1 ++ holT (s.hol.take (i + 1))) := by
    unfold Hid
    rw [List.take_add_one, hn]
    simp [holT]
   obtain ⟨zs, hzs⟩ : ∃ zs, P1 ++ holT (s.hol.take i) = zs := ⟨_, rfl⟩
   rw [hzs] at hY hlen HSN
   have ln := itoa_l21 hnJ.out
   have HW1 := Lib.hid (wr1 w HT.out (hY.out.alloc (.cells #[.int .i64 n] 3)) (by omega) (c := 1) n (Blk.new wr 3 #[.int .i64 n]) hnJ.out)
   clear hc0 eA0 hn hzs
   go_wp2_with (first | (go_at_call 45; (with_reducible refine HW1.out.mono ?_); rintro e w1 ⟨v1, rfl, hY1⟩; have HY1 := Lib.hid hY1; clear hY1) | (at_builtin; go_loud (refine wpList_y1 (w0 := w) (w := X) rfl (.tmp 26) (.tmp 27) rfl _ _ rfl (HY1.out.alloc _) (by rw [List.length_append]; omega) w1.heap.size 1 44 rfl (Blk.new _ _ _) ?_); intro v2 w2 hY2; have HY2 := Lib.hid hY2; clear hY2))
   rw [HSN.out] at HY2
   go_roundw
   case rel => exact ⟨i + 1, by simp, by omega, HY2⟩
   case measure => simp [intOf]; omega
  obtain rfl : i = s.hol.length := by omega
  have tl : decide (((s.hol.length : Nat) : Int) < ((s.hol.length : Nat) : Int)) = false := decide_eq_false (by omega)
  rw [List.take_length] at hY hlen
  obtain ⟨P2, hP2⟩ : ∃ P, (P1 ++ holT s.hol) ++ [59] = P := ⟨_, rfl⟩
  have HP2 := Lib.hid hP2
  have l2 : P2.length ≤ 200001 := by rw [← hP2, List.length_append, List.length_singleton]; omega
  obtain ⟨zs, hzs⟩ : ∃ zs, P1 ++ holT s.hol = zs := ⟨_, rfl⟩
  rw [hzs] at hY hlen hP2
  clear hzs
  go_upto_region 8 with (at_builtin; go_loud (refine wpList_y1 (w0 := w) (w := X) rfl (.tmp 30) (.tmp 31) rfl _ _ rfl (hY.out.alloc _) (by omega) wr.heap.size 1 59 rfl (Blk.new _ _ _) ?_); intro v3 w3 hY3; have HY3 := Lib.hid hY3; clear hY3)
  rw [hP2] at HY3
  clear hY hlen hP2 tl hlt
  have s2 : w3.cell? ⟨bs, 2, none⟩ = some (.slice q.u s.used.length q.uc) := yb_ne HY3.out GS.out (by decide) 2
  go_upto_region 9 with (fail)
  clear s2
  go_loopw [3, 36] (fun v y WR => ∃ i : Nat, y = .int .i64 i ∧ i ≤ s.used.length ∧ Hid (Yb w X WR v (P2 ++ useT (s.used.take i)))) (fun _ y _ => 20000 - (intOf y).toNat)
  case atStart => exact ⟨0, rfl, by omega, by rw [show P2 ++ useT (s.used.take 0) = P2 by simp [useT]]; exact HY3⟩
  case round =>
   clear HY3
   obtain ⟨i, rfl, hi', hY⟩ := hrel
   have hlen : (P2 ++ useT (s.used.take i)).length ≤ 300000 := by
    unfold useT
    rw [List.length_append, List.length_map, List.length_take]
    omega
   by_cases hlt : i < s.used.length
   case pos =>
    have tl : decide ((i : Int) < (s.used.length : Int)) = true := decide_eq_true (by omega)
    obtain ⟨n, hn⟩ : ∃ n, s.used[i]? = some n := ⟨_, List.getElem?_eq_getElem hlt⟩
    obtain ⟨b0, o0, eA0, hb0, hc0⟩ := segAt (HS.out.then_ hY.out.b).u hn
    have hix := fun W => idx_at (t := 40) (size := 1) (cap := q.uc) eA0 hlt (by kernel_rfl) (fun W => by kernel_rfl) W
    have d0 : wr.cell? ⟨b0, o0 + i, none⟩ = some (.bool n) := by simpa using hc0 0 _ rfl
    simp only [Nat.mul_one] at hix
    have HSN : Hid ((P2 ++ useT (s.used.take i)) ++ [if n then 49 else 48] = P2 ++ useT (s.used.take (i + 1))) := by
     unfold Hid
     rw [List.take_add_one, hn]
     simp [useT]
    obtain ⟨zs, hzs⟩ : ∃ zs, P2 ++ useT (s.used.take i) = zs := ⟨_, rfl⟩
    rw [hzs] at hY hlen HSN
    clear hc0 eA0 hn hzs
    cases n with
    | true =>
     go_wp2_with (at_builtin; go_loud (refine wpList_y1 (w0 := w) (w := X) rfl (.tmp 41) (.tmp 42) rfl _ _ rfl (hY.out.alloc _) (by omega) wr.heap.size 1 49 rfl (Blk.new _ _ _) ?_); intro v2 w2 hY2; have HY2 := Lib.hid hY2; clear hY2)
     have hsn : zs ++ [49] = P2 ++ useT (s.used.take (i + 1)) := HSN.out
     rw [hsn] at HY2
     clear hsn
     go_roundw
     case rel => exact ⟨i + 1, by simp, by omega, HY2⟩
     case measure => simp [intOf]; omega
    | false =>
     go_wp2_with (at_builtin; go_loud (refine wpList_y1 (w0 := w) (w := X) rfl (.tmp 44) (.tmp 45) rfl _ _ rfl (hY.out.alloc _) (by omega) wr.heap.size 1 48 rfl (Blk.new _ _ _) ?_); intro v2 w2 hY2; have HY2 := Lib.hid hY2; clear hY2)
     have hsn : zs ++ [48] = P2 ++ useT (s.used.take (i + 1)) := HSN.out
     rw [hsn] at HY2
     clear hsn
     go_roundw
     case rel => exact ⟨i + 1, by simp, by omega, HY2⟩
     case measure => simp [intOf]; omega
   obtain rfl : i = s.used.length := by omega
   have tl : decide (((s.used.length : Nat) : Int) < ((s.used.length : Nat) : Int)) = false := decide_eq_false (by omega)
   rw [List.take_length] at hY hlen
   obtain ⟨P3, hP3⟩ : ∃ P, (P2 ++ useT s.used) ++ [59] = P := ⟨_, rfl⟩
   have HP3 := Lib.hid hP3
   have l3 : P3.length ≤ 300001 := by rw [← hP3, List.length_append, List.length_singleton]; omega
   obtain ⟨zs, hzs⟩ : ∃ zs, P2 ++ useT s.used = zs := ⟨_, rfl⟩
   rw [hzs] at hY hlen hP3
   clear hzs
   go_upto_region 16 with (at_builtin; go_loud (refine wpList_y1 (w0 := w) (w := X) rfl (.tmp 48) (.tmp 49) rfl _ _ rfl (hY.out.alloc _) (by omega) wr.heap.size 1 59 rfl (Blk.new _ _ _) ?_); intro v3 w3 hY3; have HY3 := Lib.hid hY3; clear hY3)
   rw [hP3] at HY3
   clear hY hlen hP3 tl hlt
   have s3 : w3.cell? ⟨bs, 3, none⟩ = some (.slice q.m s.marks.length q.mc) := yb_ne HY3.out GS.out (by decide) 3
   go_upto_region 17 with (fail)
   clear s3
   go_loopw [3, 54] (fun v y WR => ∃ i : Nat, y = .int .i64 i ∧ i ≤ s.marks.length ∧ Hid (Yb w X WR v (P3 ++ mkT (s.marks.take i)))) (fun _ y _ => 20000 - (intOf y).toNat)
   case atStart => exact ⟨0, rfl, by omega, by rw [show P3 ++ mkT (s.marks.take 0) = P3 by simp [mkT]]; exact HY3⟩
   case round =>
    clear HY3
    obtain ⟨i, rfl, hi', hY⟩ := hrel
    have hlen : (P3 ++ mkT (s.marks.take i)).length ≤ 760000 := by
     have := mkT_len (l := s.marks.take i) fun n hn => HI.out.marks n (List.mem_of_mem_take hn)
     rw [List.length_append]
     rw [List.length_take] at this
     omega
    by_cases hlt : i < s.marks.length
    case pos =>
     have tl : decide ((i : Int) < (s.marks.length : Int)) = true := decide_eq_true (by omega)
     obtain ⟨n, hn⟩ : ∃ n, s.marks[i]? = some n := ⟨_, List.getElem?_eq_getElem hlt⟩
     have hnJ := Lib.hid (HI.out.marks n (List.mem_of_getElem? hn))
     obtain ⟨b0, o0, eA0, hb0, hc0⟩ := segAt (HS.out.then_ hY.out.b).m hn
     have hrg : wr.rangeAt b0 (o0 + i * 5) (mL n) := fun j v hv => hc0 j v hv
     have hix := fun W => idx_at (t := 41) (size := 5) (cap := q.mc) eA0 hlt (by kernel_rfl) (fun W => by kernel_rfl) W
     have HSN : Hid (((P3 ++ mkT (s.marks.take i)) ++ dotT [n.st, n.left, n.got, n.brr]) ++ ((if n.pau then [112] else []) ++ [44]) = P3 ++ mkT (s.marks.take (i + 1))) := by
      unfold Hid
      rw [List.append_assoc, dot_mk, List.take_add_one, hn]
      simp [mkT]
     have ln := dotT_len (l := [n.st, n.left, n.got, n.brr]) (fun x hx => by simp only [List.mem_cons, List.not_mem_nil, or_false] at hx; rcases hx with rfl | rfl | rfl | rfl <;> first | exact hnJ.out.st | exact hnJ.out.left | exact hnJ.out.got | exact hnJ.out.brr)
     simp only [List.length_cons, List.length_nil] at ln
     obtain ⟨zs, hzs⟩ : ∃ zs, P3 ++ mkT (s.marks.take i) = zs := ⟨_, rfl⟩
     rw [hzs] at hY hlen HSN
     clear hc0 eA0 hn hzs
     go_upto_region 19 with ((refine wpList_elem 46 elM _ _ _ rfl rfl rfl rfl rfl rfl rfl rfl rfl b0 _ rfl (mL n) rfl hrg (by simp [Value.oneCell']) (by decide) (by simp) (by simp) ?_; simp only [Act.put, List.setIfInBounds_toArray, List.set_cons_succ, List.set_cons_zero]))
     refine name_wp ?_
     intro V hV
     have gm : Blk V wr.heap.size 46 (mA n) := by rw [hV]; exact Blk.new _ _ _
     have hYV : Hid (Yb w X V u3 zs) := by rw [hV]; exact hY.out.alloc _
     obtain ⟨bm, ebm⟩ : ∃ b, wr.heap.size = b := ⟨_, rfl⟩
     rw [ebm] at gm ⊢
     have GM := Lib.hid gm
     clear hV ebm hrg hix hb0 hY gm
     have m0 : V.cell? ⟨bm, 0, none⟩ = some (.int .i64 n.st) := GM.out.cell 0
     have m1 : V.cell? ⟨bm, 1, none⟩ = some (.int .i64 n.left) := GM.out.cell 1
     have m2 : V.cell? ⟨bm, 2, none⟩ = some (.int .i64 n.got) := GM.out.cell 2
     have m3 : V.cell? ⟨bm, 3, none⟩ = some (.int .i64 n.brr) := GM.out.cell 3
     have HYV := Lib.hid (hYV.out.here)
     have HW4 := Lib.hid (wr4 w HT.out (HYV.out.alloc (.cells #[.int .i64 n.st, .int .i64 n.left, .int .i64 n.got, .int .i64 n.brr] 3)) (by omega) (c := 4) n.st n.left n.got n.brr (Blk.new V 3 #[.int .i64 n.st, .int .i64 n.left, .int .i64 n.got, .int .i64 n.brr]) hnJ.out.st hnJ.out.left hnJ.out.got hnJ.out.brr)
     go_upto_region 20 with (go_at_call 45; (with_reducible refine HW4.out.mono ?_); rintro e w4 ⟨v4, rfl, hY4⟩; have HY4 := Lib.hid hY4; clear hY4)
     obtain ⟨zs4, hz4⟩ : ∃ z, zs ++ dotT [n.st, n.left, n.got, n.brr] = z := ⟨_, rfl⟩
     have l4 : zs4.length ≤ 760088 := by rw [← hz4, List.length_append]; omega
     rw [hz4] at HY4 HSN
     have m4 : w4.cell? ⟨bm, 4, none⟩ = some (.bool n.pau) := (HY4.out.blk GM.out (by decide)).cell 4
     obtain ⟨pv, hpv⟩ : ∃ p, n.pau = p := ⟨_, rfl⟩
     rw [hpv] at HSN m4
     clear HW4 hz4 m0 m1 m2 m3 hpv ln
     cases pv with
     | true =>
      go_upto_region 22 with (at_builtin; go_loud (refine wpList_y1 (w0 := w) (w := V) rfl (.tmp 71) (.tmp 72) rfl _ _ rfl (HY4.out.alloc _) (by omega) w4.heap.size 1 112 rfl (Blk.new _ _ _) ?_); intro v5 w5 hY5; have HY5 := Lib.hid hY5; clear hY5)
      go_wp2_with (at_builtin; go_loud (refine wpList_y1 (w0 := w) (w := V) rfl (.tmp 74) (.tmp 75) rfl _ _ rfl (HY5.out.alloc _) (by rw [List.length_append, List.length_singleton]; omega) w5.heap.size 1 44 rfl (Blk.new _ _ _) ?_); intro v6 w6 hY6; have HY6 := Lib.hid hY6; clear hY6)
      have hsn : (zs4 ++ [112]) ++ [44] = P3 ++ mkT (s.marks.take (i + 1)) := by rw [← HSN.out]; simp
      rw [hsn] at HY6
      clear hsn
      go_roundw
      case rel => exact ⟨i + 1, by simp, by omega, Lib.hid (hYV.out.back HY6.out)⟩
      case measure => simp [intOf]; omega
     | false =>
      go_wp2_with (at_builtin; go_loud (refine wpList_y1 (w0 := w) (w := V) rfl (.tmp 74) (.tmp 75) rfl _ _ rfl (HY4.out.alloc _) (by omega) w4.heap.size 1 44 rfl (Blk.new _ _ _) ?_); intro v6 w6 hY6; have HY6 := Lib.hid hY6; clear hY6)
      have hsn : zs4 ++ [44] = P3 ++ mkT (s.marks.take (i + 1)) := by rw [← HSN.out]; simp
      rw [hsn] at HY6
      clear hsn
      go_roundw
      case rel => exact ⟨i + 1, by simp, by omega, Lib.hid (hYV.out.back HY6.out)⟩
      case measure => simp [intOf]; omega
    obtain rfl : i = s.marks.length := by omega
    have tl : decide (((s.marks.length : Nat) : Int) < ((s.marks.length : Nat) : Int)) = false := decide_eq_false (by omega)
    rw [List.take_length] at hY
    have hfin : P3 ++ mkT s.marks = s.text := by
     rw [← HP3.out, ← HP2.out, ← HP1.out]
     unfold Sta.text
     simp
    rw [hfin] at hY
    have hne : s.text ≠ [] := by unfold Sta.text; simp
    have hcv := conv_bytes wr 104 5 9 Tryz.underlying104 Tryz.underlying5 Tryz.underlying9 hY.out.o hne
    clear hfin hlen hne tl hlt
    go_wp2
    go_ret
    exact ⟨rfl, hY.out.b⟩
end Go.Proofs.YtginnonjdbpamaaGreatDoor
