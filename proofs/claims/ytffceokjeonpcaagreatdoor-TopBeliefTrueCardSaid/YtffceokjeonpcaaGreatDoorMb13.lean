/- Contracts of functions and plain laws, joined: Tw3, Tp1, Tp2, Tp3, Tw0, Tw4, Ty1. -/
import Derived.Test.YtffceokjeonpcaaGreatDoorMb12
import Derived.Test.YtffceokjeonpcaaGreatDoorMb7
import Derived.Test.YtffceokjeonpcaaGreatDoorMb9
import Derived.Test.YtffceokjeonpcaaGreatDoorMb10
import Derived.Deep.LoopGhost
import Derived.WalkMore
import Derived.Test.YtffceokjeonpcaaGreatDoorMb1
set_option maxHeartbeats 25600000
set_option maxRecDepth 100000
namespace Go.Proofs.YtffceokjeonpcaaGreatDoor
open Go.RowKit
section
variable {c : Con} {p : See} {l : List Sta} {F N : List SQ} {x y : SQ} {g : List UInt8 → Option Value} {k t : Nat}
theorem xC1 (F N : List SQ) (x : SQ) : ∀ y ∈ N, y ∈ xB1 F N x := fun y hy => by
 unfold xB1
 split
 ·exact hy
 ·exact List.mem_append_left _ hy
theorem xEk {y : SQ} (h : y ∈ xB1 F N x) : y ∈ N ∨ (y = x ∧ xFr F x = false) := by
 unfold xB1 at h
 split at h
 ·exact .inl h
 ·next e => exact (List.mem_append.1 h).imp id fun h => ⟨List.mem_singleton.1 h, by simpa using e⟩
theorem xHx (F : List SQ) (x : SQ) : ∃ y ∈ xB1 F F x, txt y = txt x := by
 unfold xB1
 split
 ·next h =>
  unfold xFr at h
  obtain ⟨y, hy, e⟩ := List.any_eq_true.1 h
  exact ⟨y, hy, of_decide_eq_true e⟩
 ·exact ⟨x, by simp, rfl⟩
theorem xHw (F N : List SQ) (x : SQ) : (xB1 F N x).length ≤ N.length + 1 := by
 unfold xB1
 split <;> simp
theorem metIn_same (h : F.length = N.length + k) : (xB1 F F x).length = (xB1 F N x).length + k := by
 unfold xB1
 split
 ·exact h
 ·simp only [List.length_append, List.length_singleton]; omega
def metL (l : List SQ) : List SQ := l.foldl (fun F x => xB1 F F x) []
theorem metL_succ {l : List SQ} {i : Nat} (hx : l[i]? = some x) : metL (l.take (i + 1)) = xB1 (metL (l.take i)) (metL (l.take i)) x := by
 unfold metL
 rw [List.take_add_one, hx]
 simp [List.foldl_append]
theorem xE1 : ∀ (l F : List SQ), (∀ y ∈ F, y ∈ l.foldl (fun F x => xB1 F F x) F) ∧ (∀ y ∈ l.foldl (fun F x => xB1 F F x) F, y ∈ F ∨ y ∈ l) ∧ (∀ x ∈ l, ∃ y ∈ l.foldl (fun F x => xB1 F F x) F, txt y = txt x) ∧ (l.foldl (fun F x => xB1 F F x) F).length ≤ F.length + l.length
 | [], F => ⟨fun _ h => h, fun _ h => .inl h, (fun _ h => by cases h), Nat.le_refl _⟩
 | x :: l, F => by
  obtain ⟨h1, h2, h3, h4⟩ := xE1 l (xB1 F F x)
  rw [List.foldl_cons]
  refine ⟨fun y hy => h1 y (xC1 F F x y hy), fun y hy => ?_, fun z hz => ?_, ?_⟩
  ·rcases h2 y hy with h | h
   ·rcases xEk h with h | ⟨h, _⟩
    ·exact .inl h
    ·exact .inr (by rw [h]; simp)
   ·exact .inr (by simp [h])
  ·rcases List.mem_cons.1 hz with rfl | hz
   ·obtain ⟨y, hy, e⟩ := xHx F z
    exact ⟨y, h1 y hy, e⟩
   ·exact h3 z hz
  ·have := xHw F F x
   simp only [List.length_cons]
   omega
theorem metL_len (l : List SQ) : (metL l).length ≤ l.length := by
 have := (xE1 l []).2.2.2
 simpa [metL] using this
theorem metL_sub (l : List SQ) : ∀ y ∈ metL l, y ∈ l := fun y hy => ((xE1 l []).2.1 y hy).resolve_left (by simp)
structure Prg (c : Con) (p : See) (l : List Sta) (F N : List SQ) (k : Nat) : Prop where
 way : Way c p l F
 sub : ∀ s ∈ l, s ∈ F.map (·.1)
 ok : ∀ x ∈ F, SOk c x.1
 ns : ∀ x ∈ N, x ∈ F
 done : ∀ x ∈ F, x ∈ N ∨ (x.1.day < c.days → ∀ n ∈ hidL c p x.1, x.1.stepE c n = 0 → x.1.step c n ∈ F.map (·.1))
 len : F.length = N.length + k
 k : k ≤ 300
 n : F.length ≤ 1000000
theorem same_txt {a b : SQ} (ha : SOk c a.1) (hb : SOk c b.1) (h : txt a = txt b) : a.1 = b.1 := xG4 (xFd ha) (xFd hb) h
theorem prg_first {rows : List SQ} (h : ∀ x ∈ rows, SOk c x.1) (hn : rows.length ≤ 1000000) : Prg c p (rows.map (·.1)) (metL rows) (metL rows) 0 := by
 have hs := metL_sub rows
 refine ⟨⟨fun S h1 _ x hx => h1 _ (List.mem_map_of_mem (hs x hx))⟩, fun s hs' => ?_, fun x hx => h x (hs x hx), fun x hx => hx, fun x hx => .inl hx, rfl, by omega, Nat.le_trans (metL_len rows) hn⟩
 obtain ⟨x, hx, rfl⟩ := List.mem_map.1 hs'
 obtain ⟨y, hy, e⟩ := (xE1 rows []).2.2.1 x hx
 exact List.mem_map.2 ⟨y, hy, same_txt (h y (hs y hy)) (h x hx) e⟩
structure Mid (c : Con) (p : See) (l : List Sta) (F N : List SQ) (k : Nat) (x : SQ) (t : Nat) : Prop where
 way : Way c p l F
 sub : ∀ s ∈ l, s ∈ F.map (·.1)
 ok : ∀ x ∈ F, SOk c x.1
 ns : ∀ x ∈ N, x ∈ F
 done : ∀ z ∈ F, z ∈ N ∨ z = x ∨ (z.1.day < c.days → ∀ n ∈ hidL c p z.1, z.1.stepE c n = 0 → z.1.step c n ∈ F.map (·.1))
 len : F.length = N.length + (k + 1)
 k : k + 1 ≤ 300
 n : F.length ≤ 300 + t
 xi : x ∈ F
 hd : x.1.day < c.days
 part : ∀ n ∈ (hidL c p x.1).take t, x.1.stepE c n = 0 → x.1.step c n ∈ F.map (·.1)
theorem rest_len (hT : Tab N g) (hx : x ∈ N) : N.length = (rest N (txt x)).length + 1 := by
 have h1 : N.length ≤ ((rest N (txt x)).length + 1) := by
  have := xCr (a := N.map txt) (b := txt x :: (rest N (txt x)).map txt) hT.texts fun s hs => by
   obtain ⟨z, hz, rfl⟩ := List.mem_map.1 hs
   by_cases e : txt z = txt x
   ·rw [e]; simp
   ·exact List.mem_cons_of_mem _ (List.mem_map_of_mem (xB4.2 ⟨hz, e⟩))
  simpa using this
 have h2 : (rest N (txt x)).length + 1 ≤ N.length := by
  have := xCr (a := txt x :: (rest N (txt x)).map txt) (b := N.map txt) (List.nodup_cons.2 ⟨fun h => by
   obtain ⟨z, hz, e⟩ := List.mem_map.1 h
   exact (xB4.1 hz).2 e, (hT.drop (txt x)).texts⟩) fun s hs => by
   rcases List.mem_cons.1 hs with rfl | hs
   ·exact List.mem_map_of_mem hx
   ·obtain ⟨z, hz, rfl⟩ := List.mem_map.1 hs
    exact List.mem_map_of_mem (xB4.1 hz).1
  simpa using this
 omega
theorem tab_uniq (hT : Tab N g) {z : SQ} (hx : x ∈ N) (hz : z ∈ N) (e : txt z = txt x) : z = x := by
 obtain ⟨i, hi⟩ := List.getElem?_of_mem hx
 obtain ⟨j, hj⟩ := List.getElem?_of_mem hz
 obtain ⟨hi1, hi2⟩ := qzM hi
 obtain ⟨hj1, hj2⟩ := qzM hj
 have hp := List.pairwise_iff_getElem.1 hT.nd
 rcases Nat.lt_trichotomy i j with hij | hij | hij
 ·exact absurd (by rw [hi2, hj2, e]) (hp i j hi1 hj1 hij)
 ·subst hij; rw [← hi2, ← hj2]
 ·exact absurd (by rw [hi2, hj2, e]) (hp j i hj1 hi1 hij)
theorem Prg.pop (h : Prg c p l F N k) (hT : Tab N g) (hx : x ∈ N) (hn : F.length ≤ 300) (hd : x.1.day < c.days) : Mid c p l F (rest N (txt x)) k x 0 := by
 have hl := rest_len hT hx
 have := h.len
 refine ⟨h.way, h.sub, h.ok, fun z hz => h.ns z (xB4.1 hz).1, fun z hz => ?_, by omega, by omega, by omega, h.ns x hx, hd, fun n hn => by simp at hn⟩
 rcases h.done z hz with h1 | h1
 ·by_cases e : txt z = txt x
  ·exact .inr (.inl (tab_uniq hT hx h1 e))
  ·exact .inl (xB4.2 ⟨h1, e⟩)
 ·exact .inr (.inr h1)
theorem Prg.late (h : Prg c p l F N k) (hT : Tab N g) (hx : x ∈ N) (hn : F.length ≤ 300) (hd : ¬ x.1.day < c.days) : Prg c p l F (rest N (txt x)) (k + 1) := by
 have hl := rest_len hT hx
 have := h.len
 refine ⟨h.way, h.sub, h.ok, fun z hz => h.ns z (xB4.1 hz).1, fun z hz => ?_, by omega, by omega, by omega⟩
 rcases h.done z hz with h1 | h1
 ·by_cases e : txt z = txt x
  ·rw [tab_uniq hT hx h1 e]; exact .inr fun h2 => absurd h2 hd
  ·exact .inl (xB4.2 ⟨h1, e⟩)
 ·exact .inr h1
theorem xG5 {n : Int} (hn : (hidL c p x.1)[t]? = some n) {i : Int} (hi : i ∈ (hidL c p x.1).take (t + 1)) : i ∈ (hidL c p x.1).take t ∨ i = n := by
 rw [List.take_add_one, hn] at hi
 simpa using hi
theorem Mid.skip (h : Mid c p l F N k x t) {n : Int} (hn : (hidL c p x.1)[t]? = some n) (hE : x.1.stepE c n ≠ 0) : Mid c p l F N k x (t + 1) :=
 ⟨h.way, h.sub, h.ok, h.ns, h.done, h.len, h.k, Nat.le_trans h.n (by omega), h.xi, h.hd, fun i hi he => (xG5 hn hi).elim (fun h1 => h.part i h1 he) fun h1 => absurd (h1 ▸ he) hE⟩
theorem Mid.meet (h : Mid c p l F N k x t) {n : Int} (hn : (hidL c p x.1)[t]? = some n) (hE : x.1.stepE c n = 0) (hy : y.1 = x.1.step c n) : Mid c p l (xB1 F F y) (xB1 F N y) k x (t + 1) := by
 have hmem := qzK hn
 have hsok : SOk c y.1 := by rw [hy]; exact xCo (h.ok x h.xi) hE
 have hmono : ∀ s, s ∈ F.map (·.1) → s ∈ (xB1 F F y).map (·.1) := fun s hs => by
  obtain ⟨z, hz, rfl⟩ := List.mem_map.1 hs
  exact List.mem_map_of_mem (xC1 F F y z hz)
 have hok : ∀ z ∈ xB1 F F y, SOk c z.1 := fun z hz => (xEk hz).elim (h.ok z) fun e => by rw [e.1]; exact hsok
 have hin : x.1.step c n ∈ (xB1 F F y).map (·.1) := by
  obtain ⟨z, hz, e⟩ := xHx F y
  exact List.mem_map.2 ⟨z, hz, (same_txt (hok z hz) hsok e).trans hy⟩
 refine ⟨?_, fun s hs => hmono s (h.sub s hs), hok, fun z hz => ?_, fun z hz => ?_, metIn_same h.len, h.k, ?_, xC1 F F y x h.xi, h.hd, fun i hi he => ?_⟩
 ·refine ⟨fun S h1 h2 z hz => ?_⟩
  rcases xEk hz with hz | ⟨rfl, _⟩
  ·exact h.way.mn S h1 h2 z hz
  ·rw [hy]; exact h.way.step h.xi h.hd hmem hE S h1 h2
 ·rcases xEk hz with hz | ⟨rfl, e⟩
  ·exact xC1 F F y z (h.ns z hz)
  ·unfold xB1; rw [e]; simp
 ·rcases xEk hz with hz | ⟨rfl, e⟩
  ·rcases h.done z hz with h1 | h1 | h1
   ·exact .inl (xC1 F N y z h1)
   ·exact .inr (.inl h1)
   ·exact .inr (.inr fun a b d e => hmono _ (h1 a b d e))
  ·exact .inl (by unfold xB1; rw [e]; simp)
 ·have := xHw F F y
  have := h.n
  omega
 ·rcases xG5 hn hi with h1 | h1
  ·exact hmono _ (h.part i h1 he)
  ·rw [h1]; exact hin
theorem Mid.fin (h : Mid c p l F N k x t) (ht : (hidL c p x.1).length ≤ t) (hF : t ≤ 400) : Prg c p l F N (k + 1) := by
 have hn := h.n
 refine ⟨h.way, h.sub, h.ok, h.ns, fun z hz => ?_, h.len, h.k, by omega⟩
 rcases h.done z hz with h1 | h1 | h1
 ·exact .inl h1
 ·rw [h1]
  refine .inr fun _ n hn hE => h.part n ?_ hE
  rw [List.take_of_length_le ht]
  exact hn
 ·exact .inr h1
theorem Prg.closed (h : Prg c p l F [] k) : xDm c p (F.map (·.1)) := fun s hs hd n hn hE => by
 obtain ⟨x, hx, rfl⟩ := List.mem_map.1 hs
 rcases h.done x hx with h1 | h1
 ·cases h1
 ·exact h1 hd n hn hE
theorem hidL_len (s : Sta) : (hidL c p s).length ≤ c.ac.length := hidU_len p c.ac.length
end
theorem xHh (c : Con) (m : Cm) (s : Sta) (q : Qm) (p : Int) (n : Nat) (a : Atc) (w : World) (hC : Cont w c m) (hS : Stm w s q) (ha : c.ac[n]? = some a) (hr : xJb a s) :
  Calls Tryz.prog 28 #[.agg (coA c m), .agg (stA s q), .int .i64 p, .int .i64 (n : Nat)] w fun e w' => e = .returned (.bool (xBo s.hol p a)) ∧ Below w.heap.size w w' := by
 obtain ⟨R, hR⟩ : ∃ r, xBo s.hol p a = r := ⟨_, rfl⟩
 rw [hR]
 have HR : Hid (R = (a.kind != 1 || a.to_ == -1 || xCa s.hol a.to_ == p || (a.role != -1 && xCa s.hol a.role == p))) := hR.symm
 clear hR
 have hna : n < c.ac.length := (qzM ha).1
 have na := hC.na
 have nh := hS.nh
 obtain ⟨b0, o0, eA0, hb0, hc0⟩ := xAv hC.a ha
 have hix0 := fun W => xAp (t := 24) (size := 7) (cap := m.ac) eA0 hna (by kernel_rfl) (fun W => by kernel_rfl) W
 have hrg : w.rangeAt b0 (o0 + n * 7) (aL a) := fun j v hv => hc0 j v hv
 have HS := qzL hS
 have HA := qzL hr
 clear hC hS ha hr hc0 eA0
 go_enter Tryz.func28, Tryz.ntmps28
 go_upto_region 1 with (fail)
 refine xAi ?_
 intro X hX
 have ga : Blk X w.heap.size 27 (coA c m) := by rw [hX]; exact (Blk.new _ _ _).alloc _
 have gs : Blk X (w.heap.size + 1) 47 (stA s q) := by rw [hX]; exact xA0 (by simp)
 have HB : Hid (Below w.heap.size w X) := by unfold Hid; rw [hX]; (repeat first | exact Below.refl _ _ | refine xAc ?_ _)
 obtain ⟨bs, ebs⟩ : ∃ b, w.heap.size + 1 = b := ⟨_, rfl⟩
 rw [ebs] at gs ⊢
 have hrX : X.rangeAt b0 (o0 + n * 7) (aL a) := fun j v hv => (HB.out.cell (p := ⟨b0, o0 + n * 7 + j, none⟩) hb0).trans (hrg j v hv)
 clear hX ebs hrg
 have k3 : X.cell? ⟨w.heap.size, 3, none⟩ = some (.slice m.a c.ac.length m.ac) := ga.cell 3
 have GS := qzL gs
 clear gs
 go_upto_region 2 with ((refine xAm 92 el7 _ _ _ rfl rfl rfl rfl rfl rfl rfl rfl rfl b0 _ rfl (aL a) rfl hrX (by simp [Value.oneCell']) (by decide) (by simp) (by simp) ?_; simp only [Act.put, qzG, qzH, qzI]))
 refine xAi ?_
 intro Y hY
 have gy : Blk Y X.heap.size 92 (aL a).toArray := by rw [hY]; exact Blk.new _ _ _
 have HY : Hid (Below X.heap.size X Y) := by rw [hY]; exact wa1 _ _
 have s1 : Y.cell? ⟨bs, 1, none⟩ = some (.slice q.h s.hol.length q.hc) := (GS.out.then_ HY.out).cell 1
 obtain ⟨by_, eby⟩ : ∃ b, X.heap.size = b := ⟨_, rfl⟩
 rw [eby] at gy ⊢
 have HWY : Hid (Below w.heap.size w Y) := xAa HB.out (by rw [← eby] at *; exact HY.out)
 clear hY hrX k3 ga eby
 have y0 : Y.cell? ⟨by_, 0, none⟩ = some (.int .i64 a.kind) := gy.cell 0
 have y1 : Y.cell? ⟨by_, 1, none⟩ = some (.int .i64 a.role) := gy.cell 1
 have y3 : Y.cell? ⟨by_, 3, none⟩ = some (.int .i64 a.to_) := gy.cell 3
 clear gy
 cases k1 : (a.kind != 1) with
 | true =>
  have hf : Hid (R = true) := by unfold Hid; rw [HR.out, k1]; rfl
  clear HR
  go_wp2
  go_ret
  exact ⟨xAb hf.out.symm, HWY.out⟩
 | false =>
 obtain ⟨hto, hro⟩ := HA.out (by simpa using k1)
 cases t1 : (a.to_ == -1) with
 | true =>
  have hf : Hid (R = true) := by unfold Hid; rw [HR.out, t1]; simp
  clear HR hto hro
  go_wp2
  go_ret
  exact ⟨xAb hf.out.symm, HWY.out⟩
 | false =>
 have h1 : a.to_ ≠ -1 := by simpa using t1
 obtain ⟨r, hrr⟩ : ∃ r : Nat, a.to_ = (r : Int) := ⟨a.to_.toNat, by omega⟩
 have hrl : r < s.hol.length := by omega
 obtain ⟨hv, hhv⟩ : ∃ v, s.hol[r]? = some v := ⟨_, qzJ hrl⟩
 have e1 : xCa s.hol a.to_ = hv := by unfold xCa; rw [hrr, Int.toNat_natCast, List.getD_eq_getElem?_getD, hhv]; rfl
 obtain ⟨b1, o1, eA1, hb1, hc1⟩ := xAv HS.out.h hhv
 have hix1 := fun W => xAp (t := 22) (size := 1) (cap := q.hc) eA1 hrl (by kernel_rfl) (fun W => by kernel_rfl) W
 have d2 : Y.cell? ⟨b1, o1 + r, none⟩ = some (.int .i64 hv) := (HWY.out.cell (p := ⟨b1, o1 + r, none⟩) hb1).trans (by simpa using hc1 0 _ rfl)
 simp only [Nat.mul_one] at hix1
 have HR2 : Hid (R = ((hv == p) || (a.role != -1 && xCa s.hol a.role == p))) := by unfold Hid; rw [HR.out, k1, t1, e1]; rfl
 rw [hrr] at y3 t1
 clear HR h1 hrr hhv hc1 eA1 e1 hto
 cases z1 : (hv == p) with
 | true =>
  have hf : Hid (R = true) := by unfold Hid; rw [HR2.out, z1]; rfl
  clear HR2 hro
  go_wp2
  go_ret
  exact ⟨xAb hf.out.symm, HWY.out⟩
 | false =>
 cases k2 : (a.role != -1) with
 | false =>
  have hf : Hid (R = false) := by unfold Hid; rw [HR2.out, z1, k2]; rfl
  clear HR2 hro
  go_wp2
  go_ret
  exact ⟨xAb hf.out.symm, HWY.out⟩
 | true =>
 have h2 : a.role ≠ -1 := by simpa using k2
 obtain ⟨r2, hr2⟩ : ∃ r : Nat, a.role = (r : Int) := ⟨a.role.toNat, by omega⟩
 have hrl2 : r2 < s.hol.length := by omega
 obtain ⟨hv2, hhv2⟩ : ∃ v, s.hol[r2]? = some v := ⟨_, qzJ hrl2⟩
 have e2 : xCa s.hol a.role = hv2 := by unfold xCa; rw [hr2, Int.toNat_natCast, List.getD_eq_getElem?_getD, hhv2]; rfl
 obtain ⟨b2, o2, eA2, hb2, hc2⟩ := xAv HS.out.h hhv2
 have hix2 := fun W => xAp (t := 22) (size := 1) (cap := q.hc) eA2 hrl2 (by kernel_rfl) (fun W => by kernel_rfl) W
 have d3 : Y.cell? ⟨b2, o2 + r2, none⟩ = some (.int .i64 hv2) := (HWY.out.cell (p := ⟨b2, o2 + r2, none⟩) hb2).trans (by simpa using hc2 0 _ rfl)
 simp only [Nat.mul_one] at hix2
 have hf : Hid (R = (hv2 == p)) := by unfold Hid; rw [HR2.out, z1, k2, e2]; rfl
 rw [hr2] at y1 k2
 clear HR2 h2 hr2 hhv2 hc2 eA2 e2 hro
 go_wp2
 go_ret
 exact ⟨xAb hf.out.symm, HWY.out⟩
theorem xHi (c : Con) (m : Cm) (s : Sta) (q : Qm) (p x : Int) (w : World) (hC : Cont w c m) (hS : Stm w s q) (hr : s.ok c = true → ∀ a ∈ c.ac, xJb a s) :
  Calls Tryz.prog 53 #[.agg (coA c m), .agg (stA s q), .int .i64 p, .int .i64 x] w fun e w' => e = .returned (.bool (s.ok c && decide (0 ≤ p) && decide (p < c.par) && decide (0 ≤ x) && decide (x < (c.ac.length : Int)) && (match c.ac[x.toNat]? with | some a => xBo s.hol p a | none => false))) ∧ Below w.heap.size w w' := by
 obtain ⟨R, hR⟩ : ∃ r, (s.ok c && decide (0 ≤ p) && decide (p < c.par) && decide (0 ≤ x) && decide (x < (c.ac.length : Int)) && (match c.ac[x.toNat]? with | some a => xBo s.hol p a | none => false)) = r := ⟨_, rfl⟩
 rw [hR]
 have HR := qzL hR.symm
 clear hR
 have HC := qzL hC
 have HS := qzL hS
 have HA := qzL hr
 have na := hC.na
 clear hC hS hr
 go_enter Tryz.func53, Tryz.ntmps53
 go_upto_region 1 with (fail)
 refine xAi ?_
 intro X hX
 have ga : Blk X w.heap.size 27 (coA c m) := by rw [hX]; exact (Blk.new _ _ _).alloc _
 have gs : Blk X (w.heap.size + 1) 47 (stA s q) := by rw [hX]; exact xA0 (by simp)
 have HB : Hid (Below w.heap.size w X) := by unfold Hid; rw [hX]; (repeat first | exact Below.refl _ _ | refine xAc ?_ _)
 obtain ⟨bs, ebs⟩ : ∃ b, w.heap.size + 1 = b := ⟨_, rfl⟩
 rw [ebs] at gs ⊢
 have hlbs : Hid (bs < X.heap.size) := gs.lt
 clear hX ebs
 obtain ⟨ok, hok⟩ : ∃ b, s.ok c = b := ⟨_, rfl⟩
 have HV : Hid (∀ W, Below X.heap.size X W → Calls Tryz.prog 47 #[.agg (coA c m), .agg (stA s q)] W fun e w' => e = .returned (.bool ok) ∧ Below W.heap.size W w') := fun W hb => by
  rw [← hok]; exact xEs c m s q W ((HC.out.then_ HB.out).then_ hb) ((HS.out.then_ HB.out).then_ hb)
 rw [hok] at HR HA
 clear hok
 obtain ⟨ba, eba⟩ : ∃ b, w.heap.size = b := ⟨_, rfl⟩
 rw [eba] at ga ⊢
 clear eba
 cases ok with
 | false =>
  have hf : Hid (R = false) := by unfold Hid; rw [HR.out]; rfl
  go_wp2_with (first | (refine xAf (by rfl) 27 _ rfl ba rfl 27 _ ga ⟨_, Tryz.underlying27⟩ (by kernel_rfl) ?_; simp only [Act.put, qzG, qzH, qzI]) | (refine xAf (by rfl) 47 _ rfl bs rfl 47 _ gs ⟨_, Tryz.underlying47⟩ (by kernel_rfl) ?_; simp only [Act.put, qzG, qzH, qzI]) | (refine xAf (by rfl) 27 _ rfl ba rfl 27 _ ga1 ⟨_, Tryz.underlying27⟩ (by kernel_rfl) ?_; simp only [Act.put, qzG, qzH, qzI]) | (refine xAf (by rfl) 47 _ rfl bs rfl 47 _ gs1 ⟨_, Tryz.underlying47⟩ (by kernel_rfl) ?_; simp only [Act.put, qzG, qzH, qzI]) | (go_at_call 47; (with_reducible refine (HV.out X (Below.refl _ _)).mono ?_); rintro e w1 ⟨rfl, hb1⟩; have ga1 := ga.then_ hb1; have gs1 := gs.then_ hb1; have k0 := ga1.cell 0; have k3 := ga1.cell 3; have k0' : w1.cell? ⟨ba, 0, none⟩ = some (.int .i64 c.par) := k0; have k3' : w1.cell? ⟨ba, 3, none⟩ = some (.slice m.a c.ac.length m.ac) := k3; clear k0 k3))
  go_ret
  exact ⟨xAb hf.out.symm, xAa HB.out hb1⟩
 | true =>
 cases z1 : decide (0 ≤ p) with
 | false =>
  have hf : Hid (R = false) := by unfold Hid; rw [HR.out, z1]; rfl
  go_wp2_with (first | (refine xAf (by rfl) 27 _ rfl ba rfl 27 _ ga ⟨_, Tryz.underlying27⟩ (by kernel_rfl) ?_; simp only [Act.put, qzG, qzH, qzI]) | (refine xAf (by rfl) 47 _ rfl bs rfl 47 _ gs ⟨_, Tryz.underlying47⟩ (by kernel_rfl) ?_; simp only [Act.put, qzG, qzH, qzI]) | (refine xAf (by rfl) 27 _ rfl ba rfl 27 _ ga1 ⟨_, Tryz.underlying27⟩ (by kernel_rfl) ?_; simp only [Act.put, qzG, qzH, qzI]) | (refine xAf (by rfl) 47 _ rfl bs rfl 47 _ gs1 ⟨_, Tryz.underlying47⟩ (by kernel_rfl) ?_; simp only [Act.put, qzG, qzH, qzI]) | (go_at_call 47; (with_reducible refine (HV.out X (Below.refl _ _)).mono ?_); rintro e w1 ⟨rfl, hb1⟩; have ga1 := ga.then_ hb1; have gs1 := gs.then_ hb1; have k0 := ga1.cell 0; have k3 := ga1.cell 3; have k0' : w1.cell? ⟨ba, 0, none⟩ = some (.int .i64 c.par) := k0; have k3' : w1.cell? ⟨ba, 3, none⟩ = some (.slice m.a c.ac.length m.ac) := k3; clear k0 k3))
  go_ret
  exact ⟨xAb hf.out.symm, xAa HB.out hb1⟩
 | true =>
 cases z2 : decide (p < c.par) with
 | false =>
  have hf : Hid (R = false) := by unfold Hid; rw [HR.out, z2]; simp
  go_wp2_with (first | (refine xAf (by rfl) 27 _ rfl ba rfl 27 _ ga ⟨_, Tryz.underlying27⟩ (by kernel_rfl) ?_; simp only [Act.put, qzG, qzH, qzI]) | (refine xAf (by rfl) 47 _ rfl bs rfl 47 _ gs ⟨_, Tryz.underlying47⟩ (by kernel_rfl) ?_; simp only [Act.put, qzG, qzH, qzI]) | (refine xAf (by rfl) 27 _ rfl ba rfl 27 _ ga1 ⟨_, Tryz.underlying27⟩ (by kernel_rfl) ?_; simp only [Act.put, qzG, qzH, qzI]) | (refine xAf (by rfl) 47 _ rfl bs rfl 47 _ gs1 ⟨_, Tryz.underlying47⟩ (by kernel_rfl) ?_; simp only [Act.put, qzG, qzH, qzI]) | (go_at_call 47; (with_reducible refine (HV.out X (Below.refl _ _)).mono ?_); rintro e w1 ⟨rfl, hb1⟩; have ga1 := ga.then_ hb1; have gs1 := gs.then_ hb1; have k0 := ga1.cell 0; have k3 := ga1.cell 3; have k0' : w1.cell? ⟨ba, 0, none⟩ = some (.int .i64 c.par) := k0; have k3' : w1.cell? ⟨ba, 3, none⟩ = some (.slice m.a c.ac.length m.ac) := k3; clear k0 k3))
  go_ret
  exact ⟨xAb hf.out.symm, xAa HB.out hb1⟩
 | true =>
 cases z3 : decide (0 ≤ x) with
 | false =>
  have hf : Hid (R = false) := by unfold Hid; rw [HR.out, z3]; simp
  go_wp2_with (first | (refine xAf (by rfl) 27 _ rfl ba rfl 27 _ ga ⟨_, Tryz.underlying27⟩ (by kernel_rfl) ?_; simp only [Act.put, qzG, qzH, qzI]) | (refine xAf (by rfl) 47 _ rfl bs rfl 47 _ gs ⟨_, Tryz.underlying47⟩ (by kernel_rfl) ?_; simp only [Act.put, qzG, qzH, qzI]) | (refine xAf (by rfl) 27 _ rfl ba rfl 27 _ ga1 ⟨_, Tryz.underlying27⟩ (by kernel_rfl) ?_; simp only [Act.put, qzG, qzH, qzI]) | (refine xAf (by rfl) 47 _ rfl bs rfl 47 _ gs1 ⟨_, Tryz.underlying47⟩ (by kernel_rfl) ?_; simp only [Act.put, qzG, qzH, qzI]) | (go_at_call 47; (with_reducible refine (HV.out X (Below.refl _ _)).mono ?_); rintro e w1 ⟨rfl, hb1⟩; have ga1 := ga.then_ hb1; have gs1 := gs.then_ hb1; have k0 := ga1.cell 0; have k3 := ga1.cell 3; have k0' : w1.cell? ⟨ba, 0, none⟩ = some (.int .i64 c.par) := k0; have k3' : w1.cell? ⟨ba, 3, none⟩ = some (.slice m.a c.ac.length m.ac) := k3; clear k0 k3))
  go_ret
  exact ⟨xAb hf.out.symm, xAa HB.out hb1⟩
 | true =>
 cases z4 : decide (x < (c.ac.length : Int)) with
 | false =>
  have hf : Hid (R = false) := by unfold Hid; rw [HR.out, z4]; simp
  go_wp2_with (first | (refine xAf (by rfl) 27 _ rfl ba rfl 27 _ ga ⟨_, Tryz.underlying27⟩ (by kernel_rfl) ?_; simp only [Act.put, qzG, qzH, qzI]) | (refine xAf (by rfl) 47 _ rfl bs rfl 47 _ gs ⟨_, Tryz.underlying47⟩ (by kernel_rfl) ?_; simp only [Act.put, qzG, qzH, qzI]) | (refine xAf (by rfl) 27 _ rfl ba rfl 27 _ ga1 ⟨_, Tryz.underlying27⟩ (by kernel_rfl) ?_; simp only [Act.put, qzG, qzH, qzI]) | (refine xAf (by rfl) 47 _ rfl bs rfl 47 _ gs1 ⟨_, Tryz.underlying47⟩ (by kernel_rfl) ?_; simp only [Act.put, qzG, qzH, qzI]) | (go_at_call 47; (with_reducible refine (HV.out X (Below.refl _ _)).mono ?_); rintro e w1 ⟨rfl, hb1⟩; have ga1 := ga.then_ hb1; have gs1 := gs.then_ hb1; have k0 := ga1.cell 0; have k3 := ga1.cell 3; have k0' : w1.cell? ⟨ba, 0, none⟩ = some (.int .i64 c.par) := k0; have k3' : w1.cell? ⟨ba, 3, none⟩ = some (.slice m.a c.ac.length m.ac) := k3; clear k0 k3))
  go_ret
  exact ⟨xAb hf.out.symm, xAa HB.out hb1⟩
 | true =>
 obtain ⟨n, rfl⟩ : ∃ n : Nat, x = (n : Int) := ⟨x.toNat, by have := of_decide_eq_true z3; omega⟩
 have hn : n < c.ac.length := by have := of_decide_eq_true z4; omega
 obtain ⟨a, ha⟩ : ∃ a, c.ac[n]? = some a := ⟨_, qzJ hn⟩
 obtain ⟨r, hr⟩ : ∃ r, xBo s.hol p a = r := ⟨_, rfl⟩
 have hf : Hid (R = r) := by unfold Hid; rw [HR.out, z1, z2, z3, z4, Int.toNat_natCast, ha, ← hr]; simp
 have HP : Hid (∀ W, Below X.heap.size X W → Calls Tryz.prog 28 #[.agg (coA c m), .agg (stA s q), .int .i64 p, .int .i64 (n : Nat)] W fun e w' => e = .returned (.bool r) ∧ Below W.heap.size W w') := fun W hb => by
  rw [← hr]; exact xHh c m s q p n a W ((HC.out.then_ HB.out).then_ hb) ((HS.out.then_ HB.out).then_ hb) ha (HA.out rfl a (qzK ha))
 have z5 : decide (n < c.ac.length) = true := qzO hn
 clear ha hr hn
 go_wp2_with (first | (refine xAf (by rfl) 27 _ rfl ba rfl 27 _ ga ⟨_, Tryz.underlying27⟩ (by kernel_rfl) ?_; simp only [Act.put, qzG, qzH, qzI]) | (refine xAf (by rfl) 47 _ rfl bs rfl 47 _ gs ⟨_, Tryz.underlying47⟩ (by kernel_rfl) ?_; simp only [Act.put, qzG, qzH, qzI]) | (refine xAf (by rfl) 27 _ rfl ba rfl 27 _ ga1 ⟨_, Tryz.underlying27⟩ (by kernel_rfl) ?_; simp only [Act.put, qzG, qzH, qzI]) | (refine xAf (by rfl) 47 _ rfl bs rfl 47 _ gs1 ⟨_, Tryz.underlying47⟩ (by kernel_rfl) ?_; simp only [Act.put, qzG, qzH, qzI]) | (go_at_call 47; (with_reducible refine (HV.out X (Below.refl _ _)).mono ?_); rintro e w1 ⟨rfl, hb1⟩; have ga1 := ga.then_ hb1; have gs1 := gs.then_ hb1; have k0 := ga1.cell 0; have k3 := ga1.cell 3; have k0' : w1.cell? ⟨ba, 0, none⟩ = some (.int .i64 c.par) := k0; have k3' : w1.cell? ⟨ba, 3, none⟩ = some (.slice m.a c.ac.length m.ac) := k3; clear k0 k3) | (go_at_call 28; (with_reducible refine (HP.out _ hb1).mono ?_); rintro e w2 ⟨rfl, hb2⟩))
 go_ret
 exact ⟨xAb hf.out.symm, xAa (xAa HB.out hb1) hb2⟩
structure NL (w : World) (c : Con) (m : Cm) (s : Sta) (q : Qm) (ba bs g : Nat) (ls : List Bool) (W : World) : Prop where
 ga : Blk W ba 27 (coA c m)
 gs : Blk W bs 47 (stA s q)
 o : Own W (bs + 1) 4 1 eB (.slice (some ⟨g, 0, none⟩) c.ac.length c.ac.length) ls
 b : Below w.heap.size w W
 l : w.heap.size ≤ ba ∧ ba < bs
 n : ls.length = c.ac.length
section
variable {w W W' : World} {c : Con} {m : Cm} {s : Sta} {q : Qm} {ba bs g : Nat} {ls : List Bool}
theorem NL.then_ (h : NL w c m s q ba bs g ls W) (hb : Below W.heap.size W W') : NL w c m s q ba bs g ls W' := ⟨h.ga.then_ hb, h.gs.then_ hb, h.o.below hb, xAa h.b hb, h.l, h.n⟩
theorem NL.lg (h : NL w c m s q ba bs g ls W) : bs < g ∧ g < W.heap.size := by
 have := h.o.lt_
 omega
theorem NL.at_ (h : NL w c m s q ba bs g ls W) {a : Nat} (ha : a < c.ac.length) : ∃ y, ls[a]? = some y ∧ W.cell? ⟨g, a, none⟩ = some (.bool y) ∧ W.frozen? ⟨g, a, none⟩ = false := by
 obtain ⟨y, hy⟩ : ∃ y, ls[a]? = some y := ⟨_, qzJ (by rw [h.n]; exact ha)⟩
 have := h.o.getAt xBj h.n hy (j := 0) (by omega)
 exact ⟨y, hy, by simpa [eB] using this⟩
theorem NL.put (h : NL w c m s q ba bs g ls W) {a : Nat} (ha : a < c.ac.length) : NL w c m s q ba bs g (ls.set a true) (W.setCell ⟨g, a, none⟩ (.bool true)) := by
 obtain ⟨y, hy, _⟩ := h.at_ ha
 have hg := h.lg
 have hl := h.l
 refine ⟨h.ga.far (p := ⟨g, a, none⟩) (show ba ≠ g by omega) _, h.gs.far (p := ⟨g, a, none⟩) (show bs ≠ g by omega) _, ?_, h.b.setCell (p := ⟨g, a, none⟩) (show w.heap.size ≤ g by omega) _, h.l, by rw [List.length_set]; exact h.n⟩
 have := h.o.setAt xBj h.n (k := a) (j := 0) (y := true) (u := .bool true) hy (by omega) rfl
 simpa using this
theorem NL.ix (_h : NL w c m s q ba bs g ls W) {a : Nat} (ha : a < c.ac.length) (V : World) : (Instr.indexAt 44 (.slice (some ⟨g, 0, none⟩) c.ac.length c.ac.length) (.int .i64 a)).run Tryz.prog V = .ok (.pointer (some ⟨g, a, none⟩)) V := by
 have := xA4 (t := 44) (size := 1) (g := g) (n := c.ac.length) (cap := c.ac.length) (i := a) ha (by kernel_rfl) (fun W => by kernel_rfl) V
 rw [Nat.mul_one] at this
 exact this
theorem NL.drew_ (h : NL w c m s q ba bs g ls W) : NL w c m s q ba bs g ls W.drew := ⟨h.ga, h.gs, h.o, h.b.drew, h.l, h.n⟩
theorem Upd.drew_ (h : Upd W W' g) : Upd W W'.drew g := ⟨fun B hB => (h.b B hB).drew, fun x hx => h.f x hx, h.s⟩
theorem nameKp {K : Act → World → Prop} {a : Act} {w : World} (h : ∀ V, V = w → K a V) : K a w := h _ rfl
end
def namA (c : Con) (s : Sta) : List Bool := (List.range c.ac.length).map fun (n : Nat) => xHq c s (n : Int)
theorem namA_all {c : Con} {s : Sta} (h : s.marks.length = c.cl.length) : namL c s c.cl.length = namA c s := by
 refine xGo (by rw [xB0]; unfold namA; simp) fun n hn => ?_
 rw [xB0] at hn
 refine ⟨_, namL_all h hn, ?_⟩
 unfold namA
 rw [List.getElem?_map, List.getElem?_range hn]
 rfl
theorem xIz (c : Con) (m : Cm) (s : Sta) (q : Qm) (p : Int) (w : World) (hC : Cont w c m) (hS : Stm w s q) (hk : SOk c s) (hp : 0 ≤ p ∧ p < c.par) :
  Calls Tryz.prog 78 #[.agg (coA c m), .agg (stA s q), .int .i64 p] w fun e w' => (∃ v, e = .returned v ∧ Own w' w.heap.size 3 1 eI v (hidL c (fun hol a => xBo hol p a) s)) ∧ Below w.heap.size w w' := by
 have HC := qzL hC
 have HS := qzL hS
 have HK := qzL hk
 have na := hC.na
 have nk := hC.nk
 have lm := hk.m
 obtain ⟨ri, hi, hz0, hz1, hz2⟩ := info_parts (show (Tryz.prog.info? 4).map (fun i => (i.zero, i.size, i.bytes)) = some (some (.bool false), 1, 1) by kernel_rfl)
 clear hC hS hk
 go_enter Tryz.func78, Tryz.ntmps78
 go_upto_region 1 with (fail)
 refine xAi ?_
 intro X hX
 have ga : Blk X w.heap.size 27 (coA c m) := by rw [hX]; exact (Blk.new _ _ _).alloc _
 have gs : Blk X (w.heap.size + 1) 47 (stA s q) := by rw [hX]; exact xA0 (by simp)
 have HB : Hid (Below w.heap.size w X) := by unfold Hid; rw [hX]; (repeat first | exact Below.refl _ _ | refine xAc ?_ _)
 obtain ⟨bs, ebs⟩ : ∃ b, w.heap.size + 1 = b := ⟨_, rfl⟩
 obtain ⟨ba, eba⟩ : ∃ b, w.heap.size = b := ⟨_, rfl⟩
 have hl : Hid (w.heap.size ≤ ba ∧ ba < bs) := by unfold Hid; omega
 rw [ebs] at gs ⊢
 rw [eba] at ga ⊢
 clear hX ebs eba
 have GA := qzL ga
 have GS := qzL gs
 have k3 : X.cell? ⟨ba, 3, none⟩ = some (.slice m.a c.ac.length m.ac) := ga.cell 3
 clear ga gs
 have hmk : ∀ W : World, (Instr.makeSlice 44 (.int .i64 (c.ac.length : Nat)) (.int .i64 (c.ac.length : Nat))).run Tryz.prog W = _ := fun W => xEh (enc := eB) (y := false) Tryz.underlying44 hi hz0 hz1 hz2 (by omega) rfl (by omega) W
 go_upto_region 2 with (fail)
 refine xAi ?_
 intro Z hZ
 obtain ⟨g, eg, hO, hb1, _⟩ := xAo (B := bs + 1) (y := false) (n := c.ac.length) xBj (by decide) (by omega) (show bs + 1 ≤ X.heap.size from GS.out.lt) hZ (by simp)
 rw [eg]
 have hN0 : Hid (NL w c m s q ba bs g (namL c s 0) Z) := by
  unfold Hid
  rw [namL_zero]
  exact ⟨GA.out.then_ hb1, GS.out.then_ hb1, hO, xAa HB.out hb1, hl.out, by simp⟩
 have s3 : Z.cell? ⟨bs, 3, none⟩ = some (.slice q.m c.cl.length q.mc) := by rw [← lm]; exact hN0.out.gs.cell 3
 have LM := qzL lm
 clear lm
 clear hZ eg hO hb1 GA GS HB k3 hmk
 go_upto_region 3 with (fail)
 go_loopw [21] (fun y WR => ∃ (i : Nat), y = .int .i64 i ∧ i ≤ c.cl.length ∧ Hid (NL w c m s q ba bs g (namL c s i) WR)) (fun y _ => 2000000 - (intOf y).toNat)
 case atStart => exact ⟨0, rfl, by omega, hN0⟩
 case round =>
  clear hN0 s3
  obtain ⟨i, rfl, hi2, hN⟩ := hrel
  by_cases hlt : i < c.cl.length
  case neg =>
   have tl : decide ((i : Int) < (c.cl.length : Int)) = false := qzN (by omega)
   obtain rfl : i = c.cl.length := by omega
   have HN := hN.out
   rw [namA_all LM.out] at HN
   refine xAi ?_
   intro Z0 hZ0
   subst hZ0
   have HN := qzL HN
   have k3 : Z0.cell? ⟨ba, 3, none⟩ = some (.slice m.a c.ac.length m.ac) := HN.out.ga.cell 3
   clear hN tl
   go_upto_region 13 with (fail)
   go_loopw [11, 58] (fun v y WR => ∃ (i : Nat), y = .int .i64 i ∧ i ≤ c.ac.length ∧ Hid (Below Z0.heap.size Z0 WR) ∧ Hid (Own WR Z0.heap.size 3 1 eI v (hidU c (fun hol a => xBo hol p a) s i))) (fun _ y _ => 2000000 - (intOf y).toNat)
   case atStart => exact ⟨0, rfl, by omega, Below.refl _ _, Own.nil _ _ _ _ _⟩
   case round =>
    clear k3
    obtain ⟨i, rfl, hi2, hB1, hO⟩ := hrel
    by_cases hlt : i < c.ac.length
    case neg =>
     have tl : decide ((i : Int) < (c.ac.length : Int)) = false := qzN (by omega)
     obtain rfl : i = c.ac.length := by omega
     go_wp2
     go_ret
     exact ⟨⟨_, rfl, hO.out.more (HN.out.b).size⟩, xAa HN.out.b hB1.out⟩
    have tl : decide ((i : Int) < (c.ac.length : Int)) = true := qzO (by omega)
    obtain ⟨a, ha⟩ : ∃ a, c.ac[i]? = some a := ⟨_, qzJ hlt⟩
    obtain ⟨b1, o1, e1, hb1, hc1⟩ := xAv HC.out.a ha
    have hix := fun W => xAp (t := 24) (size := 7) (cap := m.ac) (len := c.ac.length) e1 hlt (by kernel_rfl) (fun W => by kernel_rfl) W
    have HBW := qzL (xAa HN.out.b hB1.out)
    have hrg : wr.rangeAt b1 (o1 + i * 7) (aL a) := fun j v hv => (HBW.out.cell (p := ⟨b1, o1 + i * 7 + j, none⟩) hb1).trans (hc1 j v hv)
    clear hc1 e1
    go_upto_region 15 with (refine xBt 92 el7 _ _ _ _ _ rfl rfl rfl rfl rfl rfl rfl rfl rfl rfl rfl rfl b1 _ rfl (aL a) rfl hrg (by simp [Value.oneCell']) (by decide) (by decide) (by decide) (by simp) (by simp) (.int .i64 ((i : Nat) : Int)) rfl ?_; simp only [Act.put, qzG, qzH, qzI])
    refine xAi ?_
    intro Y hY
    have gA : Blk Y wr.heap.size 92 (aL a).toArray := by rw [hY]; exact Blk.new _ _ _
    have hbY : Below wr.heap.size wr Y := by rw [hY]; exact wa1 _ _
    have HNY := qzL (HN.out.then_ (xAa hB1.out hbY))
    have HOY := qzL (hO.out.below hbY)
    have HBY := qzL (xAa hB1.out hbY)
    obtain ⟨gA1, eg1⟩ : ∃ b, wr.heap.size = b := ⟨_, rfl⟩
    rw [eg1] at gA ⊢
    clear hY hbY eg1 hrg hix hB1 hO HBW
    have a0 : Y.cell? ⟨gA1, 0, none⟩ = some (.int .i64 a.kind) := gA.cell 0
    have a3 : Y.cell? ⟨gA1, 3, none⟩ = some (.int .i64 a.to_) := gA.cell 3
    clear gA
    obtain ⟨y0, hy0, n1, _⟩ := HNY.out.at_ hlt
    have e0 : y0 = xHq c s (i : Int) := by
     unfold namA at hy0
     rw [List.getElem?_map, List.getElem?_range hlt] at hy0
     exact (Option.some.inj hy0).symm
    have hiA := HNY.out.ix hlt
    obtain ⟨sv, hsv⟩ : ∃ b, xBo s.hol p a = b := ⟨_, rfl⟩
    obtain ⟨hb, ehb⟩ : ∃ b, hidA c (fun hol a => xBo hol p a) s i = b := ⟨_, rfl⟩
    have HH : Hid (hb = (y0 && a.kind == 1 && a.to_ != -1 && !sv)) := by unfold Hid; rw [← ehb, ← hsv, e0]; unfold hidA; rw [ha]
    have HSE : Hid (∀ W, Below Y.heap.size Y W → Calls Tryz.prog 53 #[.agg (coA c m), .agg (stA s q), .int .i64 p, .int .i64 (i : Nat)] W fun e w' => e = .returned (.bool sv) ∧ Below W.heap.size W w') := fun W hb => by
     have h := xHi c m s q p (i : Int) W (HC.out.then_ (xAa HNY.out.b hb)) (HS.out.then_ (xAa HNY.out.b hb)) (fun _ x hx => act_in HK.out hx)
     rw [xDu.2 HK.out, qzO hp.1, qzO hp.2, qzO (show (0 : Int) ≤ (i : Int) by omega), qzO (show (i : Int) < (c.ac.length : Int) by omega), Int.toNat_natCast, ha] at h
     simp only [hsv, Bool.true_and] at h
     exact h
    have HSU : Hid (hidU c (fun hol a => xBo hol p a) s (i + 1) = if hb = true then hidU c (fun hol a => xBo hol p a) s i ++ [(i : Int)] else hidU c (fun hol a => xBo hol p a) s i) := by unfold Hid; rw [hidU_succ, ehb]
    have HLU := qzL (hidU_len (c := c) (s := s) (fun hol a => xBo hol p a) i)
    clear ha hy0 e0 hsv ehb
    go_cut [84] from 63 to 84 (fun v W => v = .bool hb ∧ Hid (Below Y.heap.size Y W))
    case first =>
     cases y0 with
     | false =>
      have e : Hid (hb = false) := by unfold Hid; rw [HH.out]; rfl
      go_wp2
      go_meet
      case rel => exact ⟨by rw [e.out], Below.refl _ _⟩
     | true =>
     cases t1 : (a.kind == 1) with
     | false =>
      have e : Hid (hb = false) := by unfold Hid; rw [HH.out, t1]; rfl
      go_wp2
      go_meet
      case rel => exact ⟨by rw [e.out], Below.refl _ _⟩
     | true =>
     cases t2 : (a.to_ != -1) with
     | false =>
      have e : Hid (hb = false) := by unfold Hid; rw [HH.out, t1, t2]; rfl
      go_wp2
      go_meet
      case rel => exact ⟨by rw [e.out], Below.refl _ _⟩
     | true =>
      have e : Hid (hb = !sv) := by unfold Hid; rw [HH.out, t1, t2]; rfl
      have gaY := HNY.out.ga
      have gsY := HNY.out.gs
      clear HH
      go_wp2_with (first | (refine xAf (by rfl) 27 _ rfl ba rfl 27 _ gaY ⟨_, Tryz.underlying27⟩ (by kernel_rfl) ?_; simp only [Act.put, qzG, qzH, qzI]) | (refine xAf (by rfl) 47 _ rfl bs rfl 47 _ gsY ⟨_, Tryz.underlying47⟩ (by kernel_rfl) ?_; simp only [Act.put, qzG, qzH, qzI]) | (go_at_call 53; (with_reducible refine (HSE.out Y (Below.refl _ _)).mono ?_); rintro e w1 ⟨rfl, hb1⟩; have HB1 := qzL hb1; clear hb1))
      go_meet
      case rel => exact ⟨by rw [e.out], HB1⟩
    obtain ⟨rfl, hYW⟩ := hcut
    clear a0 a3 n1 hiA HSE
    have hii : i + 1 ≤ c.ac.length := hlt
    cases hb with
    | false =>
     have e : Hid (hidU c (fun hol a => xBo hol p a) s (i + 1) = hidU c (fun hol a => xBo hol p a) s i) := by unfold Hid; rw [HSU.out]; rfl
     clear HSU HH
     go_wp2
     go_roundw
     case rel => exact ⟨i + 1, by simp, hii, xAa HBY.out hYW.out, by unfold Hid; rw [e.out]; exact HOY.out.below hYW.out⟩
     case measure => simp [intOf]; omega
    | true =>
     have e : Hid (hidU c (fun hol a => xBo hol p a) s (i + 1) = hidU c (fun hol a => xBo hol p a) s i ++ [(i : Int)]) := by unfold Hid; rw [HSU.out]; rfl
     obtain ⟨LU, hLU⟩ : ∃ l, hidU c (fun hol a => xBo hol p a) s i = l := ⟨_, rfl⟩
     rw [hLU] at e HOY HLU
     have HO1 := qzL (HOY.out.below hYW.out)
     have HB1 := qzL (xAa HBY.out hYW.out)
     have nLU : LU.length ≤ 1000000 := by have := HLU.out; omega
     obtain ⟨ri2, hj, hj0, hj1, hj2⟩ := info_parts (show (Tryz.prog.info? 3).map (fun i => (i.zero, i.size, i.bytes)) = some (some (.int .i64 0), 1, 8) by kernel_rfl)
     clear HSU HH hLU HOY HBY
     go_wp2_with (at_builtin; go_loud (refine xBh _ rfl (.tmp 85) (.tmp 87) _ rfl Z0.heap.size 3 ri2 _ 1 8 Tryz.underlying22 hj hj0 hj1 hj2 rfl (by omega) (by omega) eI xAz xCx _ LU rfl (HO1.out.alloc _) (by omega) wc.heap.size 1 (i : Int) rfl (Blk.new _ _ _) (by have := HB1.out.size; simp; omega) ?_); intro v4 w4 hO4 hb4 hg4; have hB4 := qzL ((HB1.out.alloc HB1.out.size (.cells #[.int .i64 (i : Int)] 3)).trans hb4); have hO5 := qzL hO4; clear hO4 hb4 hg4)
     go_roundw
     case rel => exact ⟨i + 1, by simp, hii, hB4, by unfold Hid; rw [e.out]; exact hO5.out⟩
     case measure => simp [intOf]; omega
  have tl : decide ((i : Int) < (c.cl.length : Int)) = true := qzO (by omega)
  obtain ⟨x, hx⟩ : ∃ x, s.marks[i]? = some x := ⟨_, qzJ (by rw [LM.out]; exact hlt)⟩
  obtain ⟨k, hk⟩ : ∃ k, c.cl[i]? = some k := ⟨_, qzJ hlt⟩
  obtain ⟨b1, o1, e1, hb1, hc1⟩ := xAv HS.out.m hx
  have hix := fun W => xAp (t := 45) (size := 5) (cap := q.mc) (len := c.cl.length) e1 hlt (by kernel_rfl) (fun W => by kernel_rfl) W
  have hrg : wr.rangeAt b1 (o1 + i * 5) (mL x) := fun j v hv => (hN.out.b.cell (p := ⟨b1, o1 + i * 5 + j, none⟩) hb1).trans (hc1 j v hv)
  clear hc1 e1
  go_upto_region 5 with (refine xBt 61 elM _ _ _ _ _ rfl rfl rfl rfl rfl rfl rfl rfl rfl rfl rfl rfl b1 _ rfl (mL x) rfl hrg (by simp [Value.oneCell']) (by decide) (by decide) (by decide) (by simp) (by simp) (.int .i64 ((i : Nat) : Int)) rfl ?_; simp only [Act.put, qzG, qzH, qzI])
  refine xAi ?_
  intro Y hY
  have gm : Blk Y wr.heap.size 61 (mL x).toArray := by rw [hY]; exact Blk.new _ _ _
  have hbY : Below wr.heap.size wr Y := by rw [hY]; exact wa1 _ _
  have hNY := qzL (hN.out.then_ hbY)
  obtain ⟨gm1, eg1⟩ : ∃ b, wr.heap.size = b := ⟨_, rfl⟩
  rw [eg1] at gm ⊢
  clear hY hbY eg1 hrg hix hN
  have m0 : Y.cell? ⟨gm1, 0, none⟩ = some (.int .i64 x.st) := gm.cell 0
  clear gm
  obtain ⟨rn, hrn⟩ : ∃ b, x.runs = b := ⟨_, rfl⟩
  go_cut [33] from 26 to 33 (fun v W => v = .bool (!rn) ∧ Y = W)
  case first =>
   unfold Mk.runs at hrn
   cases a1 : (x.st != 1) with
   | false =>
    have e : rn = true := by rw [← hrn]; simp at a1; simp [a1]
    go_wp2
    go_meet
    case rel => exact ⟨by rw [e]; rfl, rfl⟩
   | true =>
    cases a2 : (x.st != 2) with
    | false =>
     have e : rn = true := by rw [← hrn]; simp at a2; simp [a2]
     go_wp2
     go_meet
     case rel => exact ⟨by rw [e]; rfl, rfl⟩
    | true =>
     have e : rn = false := by rw [← hrn]; simp at a1 a2; simp [a1, a2]
     go_wp2
     go_meet
     case rel => exact ⟨by rw [e]; rfl, rfl⟩
  obtain ⟨rfl, rfl⟩ := hcut
  cases rn with
  | false =>
   have hf := qzL (namL_idle hk hx hrn)
   have hnn : i + 1 ≤ c.cl.length := hlt
   go_wp2
   go_roundw
   case rel => exact ⟨i + 1, by simp, hnn, by rw [hf.out]; exact hNY⟩
   case measure => simp [intOf]; omega
  | true =>
  obtain ⟨⟨ha1, ha2⟩, hps⟩ := ok_cla HK.out.vc (qzK hk)
  obtain ⟨a, ha⟩ : ∃ a : Nat, k.act = (a : Int) := ⟨k.act.toNat, by omega⟩
  have hal : a < c.ac.length := by omega
  obtain ⟨kx, hkx, hkk⟩ := xC3 HC.out.e hk
  obtain ⟨b2, o2, e2, hb2, hc2⟩ := xAv HC.out.k hkx
  have hlk : m.ks.length = c.cl.length := by have := congrArg List.length HC.out.e; simpa using this
  have hix2 := fun W => xAp (t := 25) (size := 16) (cap := m.kc) (len := c.cl.length) e2 hlt (by kernel_rfl) (fun W => by kernel_rfl) W
  have hrg2 : Y.rangeAt b2 (o2 + i * 16) (kL kx) := fun j v hv => (hNY.out.b.cell (p := ⟨b2, o2 + i * 16 + j, none⟩) hb2).trans (hc2 j v hv)
  have k4 : Y.cell? ⟨ba, 4, none⟩ = some (.slice m.k c.cl.length m.kc) := hNY.out.ga.cell 4
  have Hhk := qzL hk
  have Hhx := qzL hx
  have Hrn := qzL hrn
  have Ha := qzL ha
  have HKK := qzL hkk
  clear hc2 e2 hk hx hrn ha1 ha2 hkx hlk m0 ha hkk
  go_upto_region 7 with (refine xAm 95 el16 _ _ _ rfl rfl rfl rfl rfl rfl rfl rfl rfl b2 _ rfl (kL kx) rfl hrg2 (by simp [Value.oneCell']) (by decide) (by simp) (by simp) ?_; simp only [Act.put, qzG, qzH, qzI])
  refine xAi ?_
  intro Y2 hY2
  have gk2 : Blk Y2 Y.heap.size 95 (kL kx).toArray := by rw [hY2]; exact Blk.new _ _ _
  have hbY : Below Y.heap.size Y Y2 := by rw [hY2]; exact wa1 _ _
  have hNY2 := qzL (hNY.out.then_ hbY)
  obtain ⟨gk, egk⟩ : ∃ b, Y.heap.size = b := ⟨_, rfl⟩
  have HGK : Hid (gk ≠ g) := by have := hNY.out.lg; unfold Hid; omega
  rw [egk] at gk2 ⊢
  clear hY2 hbY egk hrg2 hix2 hNY k4
  have c2 : Y2.cell? ⟨gk, 2, none⟩ = some (.int .i64 ((a : Nat) : Int)) := by rw [← Ha.out, ← HKK.out]; exact gk2.cell 2
  obtain ⟨y0, _, n1, n2⟩ := hNY2.out.at_ hal
  have hiA := hNY2.out.ix hal
  have GK2 := qzL gk2
  clear gk2
  go_upto_region 8 with (fail)
  refine xAi ?_
  intro Y3 hY3
  obtain ⟨ls3, els3⟩ : ∃ l, (namL c s i).set a true = l := ⟨_, rfl⟩
  have HN3 : Hid (NL w c m s q ba bs g ls3 Y3) := by unfold Hid; rw [hY3, ← els3]; exact hNY2.out.put hal
  have u3 : Upd Y2 Y3 g := by rw [hY3]; exact (Upd.refl _ _).setCell _ _
  have GK3 := qzL (GK2.out.upd u3 HGK.out)
  have HLS := qzL els3
  clear hY3 u3 GK2 c2 n1 n2 hiA hNY2 els3
  have hnn : i + 1 ≤ c.cl.length := hlt
  rcases hps with ⟨hp1, hp2⟩ | ⟨hp0, hp1, hp2, hr1, hr2⟩
  ·have c9 : Y3.cell? ⟨gk, 9, none⟩ = some (.int .i64 (-1)) := by rw [← hp1, ← HKK.out]; exact GK3.out.cell 9
   have hf := qzL (namL_act Hhk.out Hhx.out Hrn.out Ha.out hp1)
   go_wp2
   go_roundw
   case rel => exact ⟨i + 1, by simp, hnn, by rw [hf.out, HLS.out]; exact HN3⟩
   case measure => simp [intOf]; omega
  ·obtain ⟨p, hp⟩ : ∃ p : Nat, k.pause = (p : Int) := ⟨k.pause.toNat, by omega⟩
   obtain ⟨r, hr⟩ : ∃ p : Nat, k.resume = (p : Int) := ⟨k.resume.toNat, by omega⟩
   have hp9 : p < c.ac.length := by omega
   have hr9 : r < c.ac.length := by omega
   have c9 : Y3.cell? ⟨gk, 9, none⟩ = some (.int .i64 ((p : Nat) : Int)) := by rw [← hp, ← HKK.out]; exact GK3.out.cell 9
   have c10 : Y3.cell? ⟨gk, 10, none⟩ = some (.int .i64 ((r : Nat) : Int)) := by rw [← hr, ← HKK.out]; exact GK3.out.cell 10
   have tp : (((p : Nat) : Int) != -1) = true := by simp
   have hf := qzL (namL_pause Hhk.out Hhx.out Hrn.out Ha.out hp hr)
   have hiP := HN3.out.ix hp9
   have hiR := HN3.out.ix hr9
   have HP9 : Hid (kx.k.pause = (p : Int)) := by unfold Hid; rw [HKK.out]; exact hp
   have HR9 : Hid (kx.k.resume = (r : Int)) := by unfold Hid; rw [HKK.out]; exact hr
   clear hp0 hp1 hp2 hr1 hr2 hp hr
   go_upto_region 9 with (fail)
   refine xBf (fun w' => Hid (Upd Y3 w' g)) [0, 1, 2, 3, 4, 5, 6, 7] [8, 9] (by kernel_rfl) (by kernel_rfl) pO (qzL (Upd.drew_ (Upd.refl _ _))) (fun hdir hsel hpan hHeld => ?_)
   refine xAd (i := 0) (oi := ⟨some 46, _, _, _, _, _⟩) hdir hsel hpan rfl (by kernel_rfl) (by kernel_rfl) (by kernel_rfl) (Or.inl ⟨by rfl, fun _ _ => by rfl⟩) (by assumption) ?_
   try simp only [Act.put, qzG, qzI, qzH]
   refine xAd (i := 1) (oi := ⟨some 47, _, _, _, _, _⟩) hdir hsel hpan rfl (by kernel_rfl) (by kernel_rfl) (by kernel_rfl) (Or.inl ⟨by rfl, fun _ _ => by rfl⟩) (by assumption) ?_
   try simp only [Act.put, qzG, qzI, qzH]
   refine xAd (i := 2) (oi := ⟨some 48, _, _, _, _, _⟩) (v := .int .i64 ((p : Nat) : Int)) hdir hsel hpan rfl (by kernel_rfl) (by kernel_rfl) (by kernel_rfl) (Or.inl ⟨by rfl, fun w hw => by have h9 : w.cell? ⟨gk, 9, none⟩ = some (.int .i64 ((p : Nat) : Int)) := (by rw [← HP9.out]; exact (GK3.out.upd hw.out HGK.out).cell 9); go_simp⟩) (by assumption) ?_
   try simp only [Act.put, qzG, qzI, qzH]
   refine xAd (i := 3) (oi := ⟨some 49, _, _, _, _, _⟩) hdir hsel hpan rfl (by kernel_rfl) (by kernel_rfl) (by kernel_rfl) (Or.inl ⟨by rfl, fun _ _ => by rfl⟩) (by assumption) ?_
   try simp only [Act.put, qzG, qzI, qzH]
   refine xAd (i := 4) (oi := ⟨some 50, _, _, _, _, _⟩) hdir hsel hpan rfl (by kernel_rfl) (by kernel_rfl) (by kernel_rfl) (Or.inl ⟨by rfl, fun _ _ => by rfl⟩) (by assumption) ?_
   try simp only [Act.put, qzG, qzI, qzH]
   refine xAd (i := 5) (oi := ⟨some 51, _, _, _, _, _⟩) (v := .int .i64 ((r : Nat) : Int)) hdir hsel hpan rfl (by kernel_rfl) (by kernel_rfl) (by kernel_rfl) (Or.inl ⟨by rfl, fun w hw => by have h9 : w.cell? ⟨gk, 10, none⟩ = some (.int .i64 ((r : Nat) : Int)) := (by rw [← HR9.out]; exact (GK3.out.upd hw.out HGK.out).cell 10); go_simp⟩) (by assumption) ?_
   try simp only [Act.put, qzG, qzI, qzH]
   refine xAd (i := 6) (oi := ⟨some 52, _, _, _, _, _⟩) (v := .pointer (some ⟨g, p, none⟩)) hdir hsel hpan rfl (by kernel_rfl) (by kernel_rfl) (by kernel_rfl) (Or.inl ⟨by rfl, fun w hw => by have h := hiP w; go_simp⟩) (by assumption) ?_
   try simp only [Act.put, qzG, qzI, qzH]
   refine xAt (rs := [7]) (by kernel_rfl) (by simp) ?_
   refine AllHB.cons (by kernel_rfl) (o := ⟨none, _, _, _, _, _⟩) rfl (fun K hK => ?_) AllHB.nil
   rw [if_pos (by rfl)]
   obtain ⟨y7, _, c7, f7⟩ := (HN3.out.drew_).at_ hp9
   go_simp
   refine nameKp ?_
   intro V7 hV7
   have HN7 : Hid (NL w c m s q ba bs g ((ls3).set p true) V7) := (by unfold Hid; rw [hV7]; exact (HN3.out.drew_).put hp9)
   have u7 : Upd Y3 V7 g := (by rw [hV7]; exact (Upd.drew_ (Upd.refl _ _)).setCell _ _)
   clear hV7 c7 f7
   refine hK.out _ _ (qzL u7) (fun hHeld2 => ?_)
   clear hK K hHeld
   have hHeld := hHeld2
   clear hHeld2
   try simp only [Act.put, qzG, qzI, qzH]
   refine xA6 (by kernel_rfl) (by kernel_rfl) ?_
   clear hdir hsel hpan
   simp only [xAn, qzA, qzB, qzC, qzD, qzE, qzF]
   obtain ⟨y8, _, c8, f8⟩ := HN7.out.at_ hr9
   have hnn2 := hnn
   go_wp2
   go_roundw
   case rel => exact ⟨i + 1, by simp, hnn, by unfold Hid; rw [hf.out, HLS.out]; exact HN7.out.put hr9⟩
   case measure => simp [intOf]; omega
open Go.Maps Go.Sort
abbrev seeP (p : Int) : See := fun hol a => xBo hol p a
abbrev mPs (bF bN : Nat) : Nat → Prop := fun b => b = bF ∨ b = bN
structure CJ (P0 : Nat → Prop) (w : World) (c : Con) (m : Cm) (ba bF bN cF cN : Nat) (F N : List SQ) (W : World) : Prop where
 ga : Blk W ba 27 (coA c m)
 two : Two P0 bF bN cF cN F N W
 b : Below w.heap.size w W
 lo : w.heap.size ≤ ba ∧ w.heap.size ≤ bF ∧ w.heap.size ≤ bN
 p0 : ∀ b, P0 b → b < w.heap.size
section
variable {P0 : Nat → Prop} {w W W' : World} {c : Con} {m : Cm} {ba bF bN cF cN : Nat} {F N F' N' : List SQ} {x : SQ}
theorem CJ.then_ (h : CJ P0 w c m ba bF bN cF cN F N W) (hb : Below W.heap.size W W') : CJ P0 w c m ba bF bN cF cN F N W' := ⟨h.ga.then_ hb, h.two.then_ hb, xAa h.b hb, h.lo, h.p0⟩
theorem CJ.ne_ (h : CJ P0 w c m ba bF bN cF cN F N W) {a : Nat} {t : TypeId} {cs : Array Value} (hb : Blk W a t cs) : ¬ mPs bF bN a := by
 obtain ⟨g, f1, _⟩ := h.two.f
 obtain ⟨g', n1, _⟩ := h.two.n
 exact fun e => e.elim (Blk.ne_map hb f1) (Blk.ne_map hb n1)
theorem CJ.kept (h : CJ P0 w c m ba bF bN cF cN F N W) (hk : Kept W W' (mPs bF bN)) (h2 : Two P0 bF bN cF cN F' N' W') : CJ P0 w c m ba bF bN cF cN F' N' W' :=
 ⟨h.ga.kept hk (h.ne_ h.ga), h2, h.b.trans (hk.b _ (fun x hx => by have := h.lo; rcases hx with e | e <;> omega) h.b.size), h.lo, h.p0⟩
theorem CJ.meet (hT : Lx w) (h : CJ P0 w c m ba bF bN cF cN F N W) (hx : Far (pQ P0 bF bN) W x) (hk : SOk c x.1) (nF : F.length ≤ 100000000) :
  Calls Tryz.prog 75 #[.agg (eQ x).toArray, .pointer (some ⟨cF, 0, none⟩), .pointer (some ⟨cN, 0, none⟩)] W fun e w' => e = .returned (.tuple #[]) ∧ Kept W w' (mPs bF bN) ∧ CJ P0 w c m ba bF bN cF cN (xB1 F F x) (xB1 F N x) w' := by
 refine Calls.mono (meet_any c x P0 bF bN cF cN F N W (xBx hT h.b) h.two hx hk nF) ?_
 rintro e w' ⟨rfl, h1, h2⟩
 exact ⟨rfl, h1, h.kept h1 h2⟩
theorem CJ.drop (h : CJ P0 w c m ba bF bN cF cN F N W) {gN : List UInt8 → Option Value} (hN : Tab N gN) {t : List UInt8} (u : Upd W W' bN) (hm : MapS Tryz.prog 9 W' bN F.length (fun x => if x = t then none else gN x)) : Kept W W' (mPs bF bN) ∧ CJ P0 w c m ba bF bN cF cN F (rest N t) W' := by
 have hk : Kept W W' (mPs bF bN) := Kept.of_upd u (.inr rfl)
 obtain ⟨gF, f1, f2⟩ := h.two.f
 exact ⟨hk, h.kept hk ⟨h.two.cf.kept hk (h.ne_ h.two.cf), h.two.cn.kept hk (h.ne_ h.two.cn), ⟨gF, f1.keep (u.f bF h.two.ne), f2⟩, ⟨_, hm, hN.drop t⟩, h.two.ne, fun x hx => (h.two.far x hx).kept hk.pQ, fun x hx => h.two.sub x (xB4.1 hx).1⟩⟩
theorem CJ.far_ (h : CJ P0 w c m ba bF bN cF cN F N W) (_hw : Below W.heap.size W W') {S : Sta} {q : Qm} (h1 : Stm W' S q) (h2 : SOff (W.heap.size ≤ ·) q) (h3 : STy W' q) : Far (pQ P0 bF bN) W' (S, q) :=
 Far.of (B := W.heap.size) ⟨h1, h2, h3⟩ fun b hb => by have := h.two.lt; have := h.b.size; rcases hb with (e | e) | e; omega; omega; have := h.p0 b e; omega
theorem CJ.own_ (h : CJ P0 w c m ba bF bN cF cN F N W) {α : Type} {B n cap : Nat} {T : TypeId} {size : Nat} {enc : α → List Value} {A : Option Addr} {xs : List α} (he : ∀ x, (enc x).length = size) (hO : Own W B T size enc (.slice A n cap) xs) (hk : Kept W W' (mPs bF bN)) {j : Nat} {y : α} (hy : xs[j]? = some y) : ∃ b o, A = some ⟨b, o, none⟩ ∧ ∀ i v, (enc y)[i]? = some v → W'.cell? ⟨b, o + j * size + i, none⟩ = some v := by
 obtain ⟨A', c', e, _, _, hs, _, _, ht⟩ := hO.segz he
 injection e with e1 e2 e3
 subst e1
 obtain ⟨b, o, e1, hb, hc⟩ := xAv hs hy
 obtain ⟨cs, hbl⟩ := ht _ e1
 exact ⟨b, o, e1, fun i v hv => (World.cell?_of_block (hk.k b hb (h.ne_ hbl))).trans (hc i v hv)⟩
end
theorem keys_any (b : Nat) (W : World) : Calls Tryz.prog 77 #[.map (some b)] W fun e w' => e = .returned (.func (.func 103) #[] #[.pointer (some ⟨W.heap.size, 0, none⟩)]) ∧ w' = W.alloc (.cells #[.map (some b)] 114) :=
 (callsIn_wide (n := 5)).1 (Tryz.maps_Keys_77 (some b) W)
abbrev encT (s : List UInt8) : List Value := [.string (tBy s)]
theorem xE4 (s : List UInt8) : (encT s).length = 1 := rfl
theorem xFx {b n : Nat} {g : List UInt8 → Option Value} {rows : List SQ} {W : World} (hm : MapS Tryz.prog 9 W b n g) (hT : Tab rows g) (hn : rows.length ≤ 100000000) :
  Calls Tryz.prog 76 #[.func (.func 103) #[] #[.pointer (some ⟨W.heap.size, 0, none⟩)]] (W.alloc (.cells #[.map (some b)] 114)) fun e w' => (∃ v ks, e = .returned v ∧ Own w' (W.heap.size + 1) 9 1 encT v ks ∧ ks.Pairwise (· < ·) ∧ ks.length = rows.length ∧ ∀ s, s ∈ ks ↔ ∃ x ∈ rows, txt x = s) ∧ Below W.heap.size W w' := by
 obtain ⟨D, h1, h2, h3, h4, h5⟩ := hm.keys_ Tryz.underlying9
 have hc := hT.count h2 h5
 refine Calls.mono ((callsIn_wide (n := 5)).1 (Tryz.slices_Sorted_keys_76_77 b n D R0 W h1 (by rw [h3, hc]; unfold maxLen; omega) (by rw [h3, hc]; omega))) ?_
 rintro e w' ⟨v, ss, rfl, hp, ho, _, hb⟩
 have hsz : (W.alloc (.cells #[.map (some b)] 114)).heap.size = W.heap.size + 1 := by simp
 have hperm : (ss.mergeSort (fun x y => decide (x ≤ y))).Perm (strKeys D) := (List.mergeSort_perm _ _).trans hp
 refine ⟨⟨v, ss.mergeSort (fun x y => decide (x ≤ y)), rfl, ?_, ?_, by rw [hperm.length_eq]; exact hc, fun s => ?_⟩, (wa1 _ _).trans (hb.mono (by omega))⟩
 ·unfold Own
  rw [hsz] at ho
  have e1 : ∀ l : List (List UInt8), l.flatMap encT = l.map Go.Proofs.encStr := fun l => by
   induction l with
   | nil => rfl
   | cons a l ih => rw [List.flatMap_cons, List.map_cons, ih]; rfl
  rw [e1, List.length_mergeSort]
  exact ho
 ·have hle := List.pairwise_mergeSort (le := fun x y : List UInt8 => decide (x ≤ y)) (fun a b c h1 h2 => qzO (List.le_trans (of_decide_eq_true h1) (of_decide_eq_true h2))) (fun a b => by simpa using List.le_total a b) ss
  have hnd := hperm.symm.nodup_iff.1 h2
  refine hle.imp₂ (fun a b h1 h2 => ?_) hnd
  have h3 : a ≤ b := of_decide_eq_true h1
  exact Decidable.byContradiction fun h => h2 (List.le_antisymm h3 (List.not_lt.1 h))
 ·rw [hperm.mem_iff, h5, hT.some_]
theorem clE_none {c : Con} {p : See} {l : List Sta} (h : closF c p l = none) : clE c p l = (3, []) := by unfold clE; rw [h]
theorem clE_some {c : Con} {p : See} {l R : List Sta} (h : closF c p l = some R) : clE c p l = (0, R) := by unfold clE; rw [h]
theorem xFp (P0 : Nat → Prop) (c : Con) (m : Cm) (p : Int) (l : List SQ) (A : Option Addr) (cap : Nat) (w : World) (hT : Lx w) (hC : Cont w c m) (hc : c.ok = true) (hp : 0 ≤ p ∧ p < c.par) (hA : Seg w w.heap.size 4 eQ A l) (h0 : ∀ b, P0 b → b < w.heap.size) (hl : ∀ x ∈ l, Far P0 w x) (hk : ∀ x ∈ l, SOk c x.1) (nl : l.length ≤ 1000000) :
  Calls Tryz.prog 52 #[.agg (coA c m), .int .i64 p, .slice A l.length cap] w fun e w' => (∃ v rows, e = .returned (.tuple #[v, .int .i64 (clE c (seeP p) (l.map (·.1))).1]) ∧ Own w' w.heap.size 47 4 eQ v rows ∧ rows.map (·.1) = (clE c (seeP p) (l.map (·.1))).2 ∧ ∀ x ∈ rows, Far P0 w' x) ∧ Below w.heap.size w w' := by
 obtain ⟨E, hE⟩ : ∃ E, (clE c (seeP p) (l.map (·.1))).1 = E := ⟨_, rfl⟩
 obtain ⟨L, hL⟩ : ∃ E, (clE c (seeP p) (l.map (·.1))).2 = E := ⟨_, rfl⟩
 rw [hE, hL]
 have HR : Hid (clE c (seeP p) (l.map (·.1)) = (E, L)) := by unfold Hid; rw [← hE, ← hL]
 have HT := qzL hT
 have HC := qzL hC
 have HA := qzL hA
 have HL := qzL hl
 have HK := qzL hk
 have HP0 := qzL (prg_first (p := seeP p) hk nl)
 have lac := xGt hc
 obtain ⟨_, _, _, lac, _⟩ := lac
 obtain ⟨ri, hi1, hz10, hz11, hz12⟩ := info_parts (show (Tryz.prog.info? 47).map (fun i => (i.zero, i.size, i.bytes)) = some (some (.agg zS), 4, 80) by kernel_rfl)
 clear hT hC hA hl hk hE hL
 have hmm := @run_makeMap Tryz.prog
 go_enter Tryz.func52, Tryz.ntmps52
 go_upto_region 1 with (fail)
 go_step3
 go_upto_region 3 with (fail)
 refine xAi ?_
 intro X hX
 have m1 := MapS.made Tryz.prog 9 (w.alloc (.cells (coA c m) 27))
 have m2 := MapS.made Tryz.prog 9 ((w.alloc (.cells (coA c m) 27)).alloc (.map #[] 0))
 rw [show (w.alloc (.cells (coA c m) 27)).heap.size = w.heap.size + 1 by simp] at m1
 rw [show ((w.alloc (.cells (coA c m) 27)).alloc (.map #[] 0)).heap.size = w.heap.size + 1 + 1 by simp] at m2
 have hJ0 : Hid (CJ P0 w c m w.heap.size (w.heap.size + 1) (w.heap.size + 1 + 1) (w.heap.size + 1 + 1 + 1) (w.heap.size + 1 + 1 + 1 + 1) [] [] X) := by
  unfold Hid
  rw [hX]
  exact ⟨(((((Blk.new _ _ _).alloc _).alloc _).alloc _).alloc _), ⟨(xA0 (by simp)).alloc _, xA0 (by simp), ⟨_, ((m1.then_ (xAc (Below.refl _ _) _)).then_ (xAc (Below.refl _ _) _)).then_ (xAc (Below.refl _ _) _), Tab.nil⟩, ⟨_, (m2.then_ (xAc (Below.refl _ _) _)).then_ (xAc (Below.refl _ _) _), Tab.nil⟩, by omega, (fun x hx => by cases hx), (fun x hx => by cases hx)⟩, by (repeat (first | (with_reducible first | assumption | exact Below.refl _ _ | refine xAk ?_ _ | refine Below.drew ?_ | refine xAc ?_ _ | refine Below.setCell ?_ (by first | omega | (simp; done) | (simp; omega)) _ | refine xAa ?_ (by assumption)) | (refine xAa (a := World.drew _) ?_ (by with_reducible assumption)))), by omega, h0⟩
 clear m1 m2 hX
 obtain ⟨cN, e5⟩ : ∃ b, w.heap.size + 1 + 1 + 1 + 1 = b := ⟨_, rfl⟩
 obtain ⟨cF, e4⟩ : ∃ b, w.heap.size + 1 + 1 + 1 = b := ⟨_, rfl⟩
 obtain ⟨bN, e3⟩ : ∃ b, w.heap.size + 1 + 1 = b := ⟨_, rfl⟩
 obtain ⟨bF, e2⟩ : ∃ b, w.heap.size + 1 = b := ⟨_, rfl⟩
 obtain ⟨ba, e1⟩ : ∃ b, w.heap.size = b := ⟨_, rfl⟩
 rw [e5] at hJ0 ⊢
 rw [e4] at hJ0 ⊢
 rw [e3] at hJ0 ⊢
 rw [e2] at hJ0 ⊢
 have hJ0 : Hid (CJ P0 w c m ba bF bN cF cN [] [] X) := by rw [← e1]; exact hJ0
 rw [e1]
 clear hmm e1 e2 e3 e4 e5
 go_upto_region 4 with (fail)
 go_loopw [29] (fun y WR => ∃ (i : Nat), i ≤ l.length ∧ y = .int .i64 i ∧ Hid (CJ P0 w c m ba bF bN cF cN (metL (l.take i)) (metL (l.take i)) WR)) (fun y _ => 2000000 - (intOf y).toNat)
 case atStart => exact ⟨0, by omega, rfl, hJ0⟩
 case round =>
  clear hJ0
  obtain ⟨i, hi', rfl, hJ⟩ := hrel
  by_cases hlt : i < l.length
  case pos =>
   have tn : decide ((i : Int) < (l.length : Int)) = true := qzO (by omega)
   obtain ⟨x, hx⟩ : ∃ k, l[i]? = some k := ⟨_, qzJ hlt⟩
   obtain ⟨b0, o0, eA0, hb0', hc0⟩ := xAv HA.out hx
   have hrg : wr.rangeAt b0 (o0 + i * 4) (eQ x) := fun j v hv => (hJ.out.b.cell (p := ⟨b0, o0 + i * 4 + j, none⟩) hb0').trans (hc0 j v hv)
   have hix := fun W => xAp (t := 31) (size := 4) (cap := cap) (len := l.length) eA0 hlt (by kernel_rfl) (fun W => by kernel_rfl) W
   have HX := qzL hx
   clear hx hc0 eA0 hb0'
   go_upto_region 6 with (refine xAm 47 elQ _ _ _ rfl rfl rfl rfl rfl rfl rfl rfl rfl b0 _ rfl (eQ x) rfl hrg (xD5 x) (by decide) (by simp) (by simp) ?_; simp only [Act.put, qzG, qzH, qzI])
   refine xAi ?_
   intro Y hY
   have gs : Blk Y wr.heap.size 47 (eQ x).toArray := by rw [hY]; exact Blk.new _ _ _
   have hbY : Below wr.heap.size wr Y := by rw [hY]; exact wa1 _ _
   have hJY := qzL (hJ.out.then_ hbY)
   obtain ⟨bs, ebs⟩ : ∃ b, wr.heap.size = b := ⟨_, rfl⟩
   rw [ebs] at gs ⊢
   clear hY hbY ebs hrg hix hJ
   have hmx := qzK HX.out
   have HMX := qzL (hJY.out.meet HT.out (x := x) (Far.old2 (HL.out x hmx) hJY.out.lo.2 hJY.out.b) (HK.out x hmx) (by have := metL_len (l.take i); have := List.length_take_le i l; omega))
   have hii : i + 1 ≤ l.length := hlt
   clear hmx
   go_wp2_with (first | (refine xAf (by rfl) 47 _ rfl bs rfl 47 _ gs ⟨_, Tryz.underlying47⟩ (by kernel_rfl) ?_; simp only [Act.put, qzG, qzH, qzI]) | (go_at_call 75; (with_reducible refine HMX.out.mono ?_); rintro e w1 ⟨rfl, hk1, hj1⟩; have HJ1 := qzL hj1; clear hk1 hj1))
   go_roundw
   case rel => exact ⟨i + 1, hii, by simp, by rw [metL_succ HX.out]; exact HJ1⟩
   case measure => simp [intOf]; omega
  case neg =>
  have tn : decide ((i : Int) < (l.length : Int)) = false := qzN (by omega)
  obtain rfl : i = l.length := by omega
  rw [List.take_length] at hJ
  have HJ0 := hJ
  obtain ⟨LL, hLL⟩ : ∃ x, l.map (·.1) = x := ⟨_, rfl⟩
  rw [hLL] at HR HP0
  clear hJ hLL
  go_upto_region 9 with (fail)
  go_step3
  go_upto_region 9 with (fail)
  go_loopg [13] 301 (fun gk e WR => ∃ (F N : List SQ) (k : Nat), e = .int .i64 0 ∧ gk + k = 301 ∧ Hid (Prg c (seeP p) LL F N k) ∧ Hid (CJ P0 w c m ba bF bN cF cN F N WR))
  case atStart => exact ⟨metL l, metL l, 0, rfl, by omega, HP0, HJ0⟩
  case round =>
   clear HP0 HJ0
   obtain ⟨F, N, k, rfl, hgk, hP, hJ⟩ := hrel
   have cN0 : wr.cell? ⟨cN, 0, none⟩ = some (.map (some bN)) := hJ.out.two.cn.cell 0
   have cF0 : wr.cell? ⟨cF, 0, none⟩ = some (.map (some bF)) := hJ.out.two.cf.cell 0
   obtain ⟨gN, n1, n2⟩ := hJ.out.two.n
   obtain ⟨gF, f1, f2⟩ := hJ.out.two.f
   have hlenN := fun ty => n1.len Tryz.underlying9 Tryz.underlying114 n2 ty
   have hlenF := fun ty => f1.len Tryz.underlying9 Tryz.underlying114 f2 ty
   have hFn := hP.out.n
   have hFk := hP.out.len
   by_cases hN : N.length = 0
   case pos =>
    have tn : decide ((0 : Int) < (N.length : Int)) = false := qzN (by omega)
    have tnn : decide (0 < N.length) = false := qzN (by omega)
    by_cases hbig : 300 < F.length
    case pos =>
     have tb : decide ((300 : Int) < (F.length : Int)) = true := qzO (by omega)
     have tbn : decide (300 < F.length) = true := qzO hbig
     have hE : E = 3 ∧ L = [] := by
      have h := HR.out
      rw [clE_none (hP.out.way.many f2 hbig)] at h
      injection h with a b
      exact ⟨a.symm, b.symm⟩
     have HE := qzL hE
     clear hE n1 n2 f1 f2 hFn hFk hbig hN
     go_wp2
     rw [Exit.noGoto_ret]
     go_ret2
     exact ⟨⟨_, [], by rw [HE.out.1]; rfl, Own.nil _ _ _ _ _, by rw [HE.out.2]; rfl, fun x hx => by cases hx⟩, hJ.out.b⟩
    case neg =>
     have tb : decide ((300 : Int) < (F.length : Int)) = false := qzN (by omega)
     have tbn : decide (300 < F.length) = false := qzN hbig
     have HKY := qzL (keys_any bF wr)
     have HSK := qzL (xFx (W := wr) f1 f2 (by omega))
     have HF2 := qzL f2
     have hFl : F.length ≤ 300 := by omega
     have hNe := List.eq_nil_of_length_eq_zero hN
     subst hNe
     clear n1 n2 f1 f2 hFn hFk hbig hN
     go_upto_region 30 with (first | (go_at_call 77; (with_reducible refine HKY.out.mono ?_); rintro e w1 ⟨rfl, rfl⟩) | (go_at_call 76; (with_reducible refine HSK.out.mono ?_); rintro e w2 ⟨⟨v2, ks, rfl, hks, hsrt, hkn, hkm⟩, hb2⟩; obtain ⟨A2, c2, rfl, hc2, _⟩ := hks.seg xE4; have HKN := qzL hkn; have HSR := qzL hsrt; have HKM := qzL hkm; clear hkn hsrt hkm))
     have HKS := qzL hks
     have hJ2 := qzL (hJ.out.then_ hb2)
     have hks3 := qzL (hks.segA xE4)
     clear hks hb2 HKY HSK hlenN hlenF cN0 cF0 hJ
     go_loopw [21, 95] (fun v y WR => ∃ (i : Nat) (rows : List SQ), y = .int .i64 i ∧ i ≤ ks.length ∧ Hid (Own WR w2.heap.size 47 4 eQ v rows) ∧ Hid (Below w2.heap.size w2 WR) ∧ Hid (rows.map txt = ks.take i) ∧ Hid (∀ x ∈ rows, x ∈ F)) (fun _ y _ => 2000000 - (intOf y).toNat)
     case atStart => exact ⟨0, [], rfl, by omega, Own.nil _ _ _ _ _, Below.refl _ _, rfl, fun x hx => by cases hx⟩
     case round =>
      obtain ⟨i, rows, rfl, hi', hO, hB, hrows, hin⟩ := hrel
      obtain ⟨A9, c9, rfl, hc9, _⟩ := hO.out.seg xCh
      have hJW := qzL (hJ2.out.then_ hB.out)
      by_cases hlt : i < ks.length
      case neg =>
       have tn2 : decide ((i : Int) < (ks.length : Int)) = false := qzN (by omega)
       obtain rfl : i = ks.length := by omega
       have hrw : rows.map txt = ks := by rw [hrows.out, List.take_length]
       have hall : closF c (seeP p) LL = some (rows.map (·.1)) := by
        refine hP.out.way.all HF2.out hFl hP.out.sub hP.out.closed (fun x hx => xFd (hP.out.ok x hx)) ?_ (fun s hs => ?_) (fun x hx => ?_)
        ·have h := HSR.out
         rw [← hrw] at h
         exact List.pairwise_map.2 (List.pairwise_map.1 h)
        ·obtain ⟨x, hx, rfl⟩ := List.mem_map.1 hs
         exact List.mem_map_of_mem (hin.out x hx)
        ·have h := (HKM.out (txt x)).2 ⟨x, hx, rfl⟩
         rw [← hrw] at h
         rw [List.map_map]
         exact h
       have hE : E = 0 ∧ L = rows.map (·.1) := by
        have h := HR.out
        rw [clE_some hall] at h
        injection h with a b
        exact ⟨a.symm, b.symm⟩
       have HE := qzL hE
       clear hE hall hrw
       go_wp2
       rw [Exit.noGoto_ret]
       go_ret2
       exact ⟨⟨_, rows, by rw [HE.out.1]; rfl, hO.out.more hJ2.out.b.size, HE.out.2.symm, fun x hx => (hJW.out.two.far x (hin.out x hx)).sub fun b hb => .inr hb⟩, hJW.out.b⟩
      case pos =>
       have tn2 : decide ((i : Int) < (ks.length : Int)) = true := qzO (by omega)
       obtain ⟨t, ht⟩ : ∃ k, ks[i]? = some k := ⟨_, qzJ hlt⟩
       obtain ⟨b1, o1, eA1, hb1', hc1⟩ := xAv hks3.out ht
       have x0 : wr.cell? ⟨b1, o1 + i, none⟩ = some (.string (tBy t)) := (hB.out.cell (p := ⟨b1, o1 + i, none⟩) hb1').trans (by simpa using hc1 0 _ rfl)
       have hix := fun W => xAp (t := 133) (size := 1) (cap := c2) (len := ks.length) eA1 hlt (by kernel_rfl) (fun W => by kernel_rfl) W
       simp only [Nat.mul_one] at hix
       obtain ⟨x, hxF, hxt⟩ := (HKM.out t).1 (qzK ht)
       have hok := hP.out.ok x hxF
       have cF1 : wr.cell? ⟨cF, 0, none⟩ = some (.map (some bF)) := hJW.out.two.cf.cell 0
       have hget : (Instr.lookup 114 (.map (some bF)) (.string (tBy t)) false).run Tryz.prog wr = .ok (.agg (stA x.1 x.2)) wr := by
        obtain ⟨gF, f1, f2⟩ := hJW.out.two.f
        have h := f1.get (t := 114) (e := 47) Tryz.underlying9 Tryz.underlying114 (z := .agg zS) (by kernel_rfl) (s := tBy t) (by rw [← hxt]; exact key_ok hok)
        rw [xGc, ← hxt, f2.at_ hxF] at h
        rw [← hxt]
        exact h
       have hrw : (rows ++ [x]).map txt = ks.take (i + 1) := by rw [List.map_append, hrows.out, List.take_add_one, ht, List.map_singleton, hxt]; rfl
       have HRW := qzL hrw
       have hln : rows.length ≤ 1000000 := by
        have h := congrArg List.length hrows.out
        rw [List.length_map, List.length_take] at h
        have := HKN.out
        omega
       have hin2 : Hid (∀ y ∈ rows ++ [x], y ∈ F) := fun y hy => by
        rcases List.mem_append.1 hy with hy | hy
        ·exact hin.out y hy
        ·rw [List.mem_singleton.1 hy]; exact hxF
       have HO := qzL (hO.out.alloc (.cells (eQ x).toArray 47))
       have hii : i + 1 ≤ ks.length := hlt
       have lks : ks.length ≤ 1000000 := by have := HKN.out; omega
       have lW := hB.out.size
       clear ht eA1 hb1' hc1 hxF hxt hok hrw hO hrows hin hJW
       go_wp2_with (at_builtin; go_loud (refine xBh _ rfl (.tmp 99) (.tmp 103) _ rfl w2.heap.size 47 ri _ 4 80 Tryz.underlying31 hi1 hz10 hz11 hz12 rfl (by omega) (by omega) eQ xCh xD5 _ rows rfl HO.out hln wr.heap.size 1 x rfl (Blk.new _ _ _) (by simp; omega) ?_); intro v4 w4 hO4 hb4 hg4; have hB4 := qzL ((hB.out.alloc hB.out.size (.cells (eQ x).toArray 47)).trans hb4); have hO5 := qzL hO4; clear hO4 hb4 hg4)
       go_roundw
       case rel => exact ⟨i + 1, rows ++ [x], by simp, hii, hO5, hB4, HRW, hin2⟩
       case measure => simp [intOf]; omega
   case neg =>
    have tn : decide ((0 : Int) < (N.length : Int)) = true := qzO (by omega)
    have tnn : decide (0 < N.length) = true := qzO (by omega)
    have HKY := qzL (keys_any bN wr)
    have HSK := qzL (xFx (W := wr) n1 n2 (by omega))
    have hNp : 0 < N.length := by omega
    clear n1 n2 f1 f2 hN
    go_upto_region 11 with (first | (go_at_call 77; (with_reducible refine HKY.out.mono ?_); rintro e w1 ⟨rfl, rfl⟩) | (go_at_call 76; (with_reducible refine HSK.out.mono ?_); rintro e w2 ⟨⟨v2, ks, rfl, hks, hsrt, hkn, hkm⟩, hb2⟩; obtain ⟨A2, c2, rfl, hc2, _⟩ := hks.seg xE4; have HKN := qzL hkn; have HSR := qzL hsrt; have HKM := qzL hkm; clear hkn hsrt hkm))
    have HKS := qzL hks
    have hJ2 := qzL (hJ.out.then_ hb2)
    clear hks hb2 HKY HSK hlenN hlenF cN0 cF0 hJ tn tnn
    have lks : ks.length ≤ 1000000 := by have := HKN.out; omega
    have hdist : Hid (∀ (i j : Nat) (a b : List UInt8), i < j → ks[i]? = some a → ks[j]? = some b → b ≠ a) := fun i j a b hij ha hb e => by
     obtain ⟨hi1, hi2⟩ := qzM ha
     obtain ⟨hj1, hj2⟩ := qzM hb
     have h := List.pairwise_iff_getElem.1 HSR.out i j hi1 hj1 hij
     rw [hi2, hj2, e] at h
     exact List.lt_irrefl _ h
    go_loopw [13, 44] (fun e y WR => ∃ (F' N' : List SQ) (j : Nat), e = .int .i64 0 ∧ y = .int .i64 j ∧ j ≤ ks.length ∧ Hid (Prg c (seeP p) LL F' N' (k + j)) ∧ Hid (CJ P0 w c m ba bF bN cF cN F' N' WR) ∧ Hid (∀ (i : Nat) t, j ≤ i → ks[i]? = some t → ∃ x ∈ N', txt x = t) ∧ Hid (Kept w2 WR (mPs bF bN))) (fun _ y _ => 2000000 - (intOf y).toNat)
    case atStart => exact ⟨F, N, 0, rfl, rfl, by omega, hP, hJ2, fun i t _ ht => (HKM.out t).1 (qzK ht), Kept.refl _ _⟩
    case round =>
     clear hP
     obtain ⟨F1, N1, j, rfl, rfl, hj', hP1, hJ1, hal, hKp⟩ := hrel
     by_cases hlt : j < ks.length
     case neg =>
      have tn2 : decide ((j : Int) < (ks.length : Int)) = false := qzN (by omega)
      have hkn := HKN.out
      have hk3 := hP1.out.k
      have e9 : j = ks.length := by omega
      have hme : 301 - (k + j) < gk := by omega
      have hgg : 301 - (k + j) + (k + j) = 301 := by omega
      clear hkn e9 hk3
      go_wp2
      go_roundg (301 - (k + j))
      case measure => exact hme
      case rel => exact ⟨F1, N1, k + j, rfl, hgg, hP1, hJ1⟩
     case pos =>
      have tn2 : decide ((j : Int) < (ks.length : Int)) = true := qzO (by omega)
      obtain ⟨t, ht⟩ : ∃ k, ks[j]? = some k := ⟨_, qzJ hlt⟩
      obtain ⟨b1, o1, eA1, hc1⟩ := hJ2.out.own_ xE4 HKS.out hKp.out ht
      have x0 : wr.cell? ⟨b1, o1 + j, none⟩ = some (.string (tBy t)) := by simpa using hc1 0 _ rfl
      have hix := fun W => xAp (t := 133) (size := 1) (cap := c2) (len := ks.length) eA1 hlt (by kernel_rfl) (fun W => by kernel_rfl) W
      simp only [Nat.mul_one] at hix
      have cN1 : wr.cell? ⟨cN, 0, none⟩ = some (.map (some bN)) := hJ1.out.two.cn.cell 0
      have cF1 : wr.cell? ⟨cF, 0, none⟩ = some (.map (some bF)) := hJ1.out.two.cf.cell 0
      obtain ⟨gF, f1, f2⟩ := hJ1.out.two.f
      have hlenF := fun ty => f1.len Tryz.underlying9 Tryz.underlying114 f2 ty
      by_cases hbig : 300 < F1.length
      case pos =>
       have tb : decide ((300 : Int) < (F1.length : Int)) = true := qzO (by omega)
       have tbn : decide (300 < F1.length) = true := qzO hbig
       have hE : E = 3 ∧ L = [] := by
        have h := HR.out
        rw [clE_none (hP1.out.way.many f2 hbig)] at h
        injection h with a b
        exact ⟨a.symm, b.symm⟩
       clear f1 f2 eA1 hc1 ht hbig
       have HE := qzL hE
       clear hE
       go_wp2
       rw [Exit.noGoto_ret]
       go_ret2
       exact ⟨⟨_, [], by rw [HE.out.1]; rfl, Own.nil _ _ _ _ _, by rw [HE.out.2]; rfl, fun x hx => by cases hx⟩, hJ1.out.b⟩
      case neg =>
      have tb : decide ((300 : Int) < (F1.length : Int)) = false := qzN (by omega)
      have tbn : decide (300 < F1.length) = false := qzN hbig
      have hF3 : F1.length ≤ 300 := by omega
      obtain ⟨gN, n1, n2⟩ := hJ1.out.two.n
      obtain ⟨x, hxN, hxt⟩ := hal.out j t (Nat.le_refl _) ht
      have hxok := hP1.out.ok x (hP1.out.ns x hxN)
      have hks1 : (tBy t).size ≤ maxLen := by rw [← hxt]; exact key_ok hxok
      have hget : (Instr.lookup 114 (.map (some bN)) (.string (tBy t)) false).run Tryz.prog wr = .ok (.agg (stA x.1 x.2)) wr := by
       have h := n1.get (t := 114) (e := 47) Tryz.underlying9 Tryz.underlying114 (z := .agg zS) (by kernel_rfl) (s := tBy t) hks1
       rw [xGc, ← hxt, n2.at_ hxN] at h
       rw [← hxt]
       exact h
      have HXT := qzL hxt
      have HN1 := qzL n1
      have HN2 := qzL n2
      have HTT := qzL ht
      have HXN := qzL hxN
      have HXO := qzL hxok
      have HKS1 := qzL hks1
      clear f1 f2 n1 n2 eA1 hc1 ht hbig hxt hxok hks1 hxN
      go_upto_region 16 with (refine xAh rfl 47 _ _ rfl wr.heap.size 47 [] zS.toList [] (stA x.1 x.2).toList rfl rfl (Blk.new _ _ _) rfl (by kernel_rfl) (by simp [Value.oneCell']) ?_; intro w3 g3 u3)
      have hb3 : Below wr.heap.size wr w3 := (wa1 _ _).trans (u3.b _ (Nat.le_refl _))
      have hJ3 := qzL (hJ1.out.then_ hb3)
      have HN3 := qzL (HN1.out.then_ hb3)
      have HK3 := qzL (hKp.out.trans (Kept.of_below hb3))
      have G3 : Hid (Blk w3 wr.heap.size 47 (stA x.1 x.2)) := g3
      obtain ⟨bs, ebs⟩ : ∃ b, wr.heap.size = b := ⟨_, rfl⟩
      rw [ebs] at G3 ⊢
      have cN3 : w3.cell? ⟨cN, 0, none⟩ = some (.map (some bN)) := hJ3.out.two.cn.cell 0
      clear g3 u3 hb3 hget hlenF cN1 cF1 x0 hix ebs hJ1 HN1 hKp tb tbn tn2
      go_upto_region 17 with (at_delete; (refine xGz _ rfl _ _ 114 9 rfl 47 Tryz.underlying9 Tryz.underlying114 bN F1.length gN rfl HN3.out (tBy t) rfl HKS1.out ?_); intro w4 m4 u4)
      have hm4 := m4
      rw [xGc] at hm4
      obtain ⟨hk4, hj4⟩ := hJ3.out.drop HN2.out u4 hm4
      have hJ4 := qzL hj4
      have HK4 := qzL (HK3.out.trans hk4)
      have G4 := qzL (G3.out.kept hk4 (hJ3.out.ne_ G3.out))
      have d0 : w4.cell? ⟨bs, 0, none⟩ = some (.int .i64 x.1.day) := G4.out.cell 0
      have d5 : w4.cell? ⟨ba, 5, none⟩ = some (.int .i64 c.days) := hJ4.out.ga.cell 5
      have hjj : j + 1 ≤ ks.length := hlt
      have hkeep : Hid (∀ (i : Nat) u, j + 1 ≤ i → ks[i]? = some u → ∃ z ∈ rest N1 (txt x), txt z = u) := fun i u hi hu => by
       obtain ⟨z, hz, hzt⟩ := hal.out i u (by omega) hu
       refine ⟨z, xB4.2 ⟨hz, ?_⟩, hzt⟩
       rw [hzt, HXT.out]
       exact hdist.out j i t u (by omega) HTT.out hu
      rw [← HXT.out] at hJ4
      clear m4 hm4 hk4 hj4 cN3 hJ3 HN3 HK3 G3 hal u4
      by_cases hday : x.1.day < c.days
      case neg =>
       have td : decide (c.days ≤ x.1.day) = true := qzO (by omega)
       have hP2 := qzL (hP1.out.late HN2.out HXN.out hF3 hday)
       clear hday HN2
       go_wp2
       go_roundw
       case rel => exact ⟨F1, rest N1 (txt x), j + 1, rfl, by simp, hjj, hP2, hJ4, hkeep, HK4⟩
       case measure => simp [intOf]; omega
      case pos =>
      have td : decide (c.days ≤ x.1.day) = false := qzN (by omega)
      have hM0 := qzL (hP1.out.pop HN2.out HXN.out hF3 hday)
      have HH := qzL (xIz c m x.1 x.2 p w4 (HC.out.then_ hJ4.out.b) (hJ4.out.two.far x (hM0.out.xi)).now HXO.out hp)
      have HHL := qzL (hidL_len (c := c) (p := seeP p) x.1)
      obtain ⟨hs, ehs⟩ : ∃ l, hidL c (seeP p) x.1 = l := ⟨_, rfl⟩
      rw [ehs] at HH HHL
      have HHS := qzL ehs
      have ga4 := hJ4.out.ga
      have gs4 := G4.out
      clear ehs hday HN2
      go_upto_region 19 with (first | (refine xAf (by rfl) 27 _ rfl ba rfl 27 _ ga4 ⟨_, Tryz.underlying27⟩ (by kernel_rfl) ?_; simp only [Act.put, qzG, qzH, qzI]) | (refine xAf (by rfl) 47 _ rfl bs rfl 47 _ gs4 ⟨_, Tryz.underlying47⟩ (by kernel_rfl) ?_; simp only [Act.put, qzG, qzH, qzI]) | (go_at_call 78; (with_reducible refine HH.out.mono ?_); rintro e w5 ⟨⟨v5, rfl, hO5⟩, hb5⟩; obtain ⟨A5, c5, rfl, hc5, _⟩ := hO5.seg xAz))
      have HO5 := qzL hO5
      have hJ5 := qzL (hJ4.out.then_ hb5)
      have HK5 := qzL (HK4.out.trans (Kept.of_below hb5))
      have G5 := qzL (gs4.then_ hb5)
      have hlh : hs.length ≤ 60 := by have := HHL.out; omega
      clear hO5 hb5 hJ4 HK4 G4 ga4 gs4 HH HHL td
      go_loopw [66] (fun y WR => ∃ (F2 N2 : List SQ) (i : Nat), y = .int .i64 i ∧ i ≤ hs.length ∧ Hid (Mid c (seeP p) LL F2 N2 (k + j) x i) ∧ Hid (CJ P0 w c m ba bF bN cF cN F2 N2 WR) ∧ Hid (∀ z ∈ rest N1 (txt x), z ∈ N2) ∧ Hid (Kept w5 WR (mPs bF bN))) (fun y _ => 2000000 - (intOf y).toNat)
      case atStart => exact ⟨F1, rest N1 (txt x), 0, rfl, by omega, hM0, hJ5, fun z hz => hz, Kept.refl _ _⟩
      case round =>
       clear hM0
       obtain ⟨F2, N2, i, rfl, hi', hM, hJ6, hrs, hK6⟩ := hrel
       by_cases hil : i < hs.length
       case neg =>
        have tn3 : decide ((i : Int) < (hs.length : Int)) = false := qzN (by omega)
        have hP2 : Hid (Prg c (seeP p) LL F2 N2 (k + (j + 1))) := hM.out.fin (by rw [HHS.out]; omega) (by omega)
        have hkp2 : Hid (∀ (i : Nat) u, j + 1 ≤ i → ks[i]? = some u → ∃ z ∈ N2, txt z = u) := fun i u hi hu => by
         obtain ⟨z, hz, hzt⟩ := hkeep.out i u hi hu
         exact ⟨z, hrs.out z hz, hzt⟩
        have hKK := qzL (HK5.out.trans hK6.out)
        clear hM hrs
        go_wp2
        go_roundw
        case rel => exact ⟨F2, N2, j + 1, rfl, by simp, hjj, hP2, hJ6, hkp2, hKK⟩
        case measure => simp [intOf]; omega
       case pos =>
       have tn3 : decide ((i : Int) < (hs.length : Int)) = true := qzO (by omega)
       obtain ⟨n, hn⟩ : ∃ k, hs[i]? = some k := ⟨_, qzJ hil⟩
       obtain ⟨b1, o1, eA1, hc1⟩ := hJ5.out.own_ xAz HO5.out hK6.out hn
       have x0 : wr.cell? ⟨b1, o1 + i, none⟩ = some (.int .i64 n) := by simpa using hc1 0 _ rfl
       have hix := fun W => xAp (t := 22) (size := 1) (cap := c5) (len := hs.length) eA1 hil (by kernel_rfl) (fun W => by kernel_rfl) W
       simp only [Nat.mul_one] at hix
       have ga6 := hJ6.out.ga
       have gs6 : Blk wr bs 47 (stA x.1 x.2) := G5.out.kept hK6.out (hJ5.out.ne_ G5.out)
       have hxs := (hJ6.out.two.far x hM.out.xi).now
       obtain ⟨SE, hSE⟩ : ∃ E, x.1.stepE c n = E := ⟨_, rfl⟩
       obtain ⟨SS, hSS⟩ : ∃ E, x.1.stepS c n = E := ⟨_, rfl⟩
       have HSX := xD9 c m x.1 x.2 n wr (HC.out.then_ hJ6.out.b) hxs
       rw [hSE, hSS] at HSX
       have HST := qzL HSX
       have hn2 : Hid ((hidL c (seeP p) x.1)[i]? = some n) := by unfold Hid; rw [HHS.out]; exact hn
       have hii : i + 1 ≤ hs.length := hil
       have GS6 := qzL gs6
       have hS2 : Hid (SE = 0 → SS = x.1.step c n) := fun e => by rw [← hSS]; unfold Sta.stepS; rw [hSE, if_pos e]
       have HSE := qzL hSE
       clear hc1 eA1 hn hSS HSX hxs hSE
       go_upto_region 22 with (first | (refine xAf (by rfl) 27 _ rfl ba rfl 27 _ ga6 ⟨_, Tryz.underlying27⟩ (by kernel_rfl) ?_; simp only [Act.put, qzG, qzH, qzI]) | (refine xAf (by rfl) 47 _ rfl bs rfl 47 _ gs6 ⟨_, Tryz.underlying47⟩ (by kernel_rfl) ?_; simp only [Act.put, qzG, qzH, qzI]) | (go_at_call 22; (with_reducible refine HST.out.mono ?_); rintro e w6 ⟨⟨q1, rfl, hs1, ho1, ht1⟩, hb6⟩) | (refine xAh rfl 47 _ _ rfl w6.heap.size 47 [] zS.toList [] (stA SS q1).toList rfl rfl (Blk.new _ _ _) rfl (by kernel_rfl) (by simp [Value.oneCell']) ?_; intro w7 g7 u7))
       have hb67 : Below w6.heap.size w6 w7 := (wa1 _ _).trans (u7.b _ (Nat.le_refl _))
       have hb7 := xAa hb6 hb67
       have hJ7 := qzL (hJ6.out.then_ hb7)
       have HK7 := qzL (hK6.out.trans (Kept.of_below hb7))
       have G7 : Hid (Blk w7 w6.heap.size 47 (eQ (SS, q1)).toArray) := g7
       have HFR := qzL ((hJ6.out.far_ hb6 hs1 ho1 ht1).then_ hb67)
       obtain ⟨bt, ebt⟩ : ∃ b, w6.heap.size = b := ⟨_, rfl⟩
       rw [ebt] at G7 ⊢
       clear ga6 gs6 GS6 HST hb6 hs1 ho1 ht1 g7 u7 hb67 hb7 ebt x0 hix hJ6 hK6
       by_cases h1 : SE = 0
       case neg =>
        have t1 : (SE == 0) = false := by simpa using h1
        have hM2 := qzL (hM.out.skip hn2.out (by rw [HSE.out]; exact h1))
        clear h1 hM
        go_wp2
        go_roundw
        case rel => exact ⟨F2, N2, i + 1, by simp, hii, hM2, hJ7, hrs, HK7⟩
        case measure => simp [intOf]; omega
       case pos =>
       subst h1
       have hSt := hS2.out rfl
       have hM2 := qzL (hM.out.meet (y := (SS, q1)) hn2.out HSE.out hSt)
       have hrs2 : Hid (∀ z ∈ rest N1 (txt x), z ∈ xB1 F2 N2 (SS, q1)) := fun z hz => xC1 F2 N2 _ z (hrs.out z hz)
       have HMX := qzL (hJ7.out.meet HT.out (x := (SS, q1)) HFR.out (by show SOk c SS; rw [hSt]; exact xCo HXO.out HSE.out) (by have := hM.out.n; omega))
       have gt7 := G7.out
       clear hM hSt hrs G7
       go_wp2_with (first | (refine xAf (by rfl) 47 _ rfl bt rfl 47 _ gt7 ⟨_, Tryz.underlying47⟩ (by kernel_rfl) ?_; simp only [Act.put, qzG, qzH, qzI]) | (go_at_call 75; (with_reducible refine HMX.out.mono ?_); rintro e w8 ⟨rfl, hk8, hj8⟩; have HJ8 := qzL hj8; have HK8 := qzL (HK7.out.trans hk8); clear hk8 hj8))
       go_roundw
       case rel => exact ⟨xB1 F2 F2 (SS, q1), xB1 F2 N2 (SS, q1), i + 1, by simp, hii, hM2, HJ8, hrs2, HK8⟩
       case measure => simp [intOf]; omega
end Go.Proofs.YtffceokjeonpcaaGreatDoor
namespace Go.Proofs.YtffceokjeonpcaaGreatDoor
open Go.RowKit
abbrev zB : Array Value := #[.int .i64 0, .slice none 0 0]
def BRet (w : World) (p : Int) (B : Int × List Sta) (e : Ending) (w' : World) : Prop :=
 (∃ v rows, e = .returned (.tuple #[.agg #[.int .i64 (if B.1 = 0 then p else 0), v], .int .i64 B.1]) ∧ Own w' w.heap.size 47 4 eQ v rows ∧ rows.map (·.1) = B.2 ∧ ∀ x ∈ rows, Far (fun b => b < w.heap.size) w' x) ∧ Below w.heap.size w w'
theorem BRet.none {w w' : World} {p E : Int} (hE : E ≠ 0) (hb : Below w.heap.size w w') : BRet w p (E, []) (.returned (.tuple #[.agg zB, .int .i64 E])) w' :=
 ⟨⟨_, [], by rw [if_neg hE], Own.nil _ _ _ _ _, rfl, fun x hx => by cases hx⟩, hb⟩
theorem mstart_any (c : Con) (m : Cm) (p : Int) (w : World) (hT : Lx w) (hC : Cont w c m) (hc : c.ok = true) (hp : 0 ≤ p ∧ p < c.par) :
  Calls Tryz.prog 29 #[.agg (coA c m), .int .i64 p] w fun e w' => BRet w p (clE c (seeP p) [c.first]) e w' := by
 have hst : c.startE = 0 ∧ c.startS = c.first := by unfold Con.startE Con.startS; rw [hc]; exact ⟨rfl, rfl⟩
 have HST : Hid (∀ W, Below w.heap.size w W → Calls Tryz.prog 21 #[.agg (coA c m)] W fun e w' => RetS W c.first 0 e w') := fun W hb => by
  have h := xCm c m W (hC.then_ hb)
  rw [hst.1, hst.2] at h
  exact h
 have HCL : Hid (∀ (B0 : Nat) (q : Qm) W, Below w.heap.size w W → B0 ≤ W.heap.size → Far (fun b => b < B0) W (c.first, q) → Calls Tryz.prog 52 #[.agg (coA c m), .int .i64 p, .slice (some ⟨W.heap.size, 0, none⟩) 1 1] (W.alloc (.cells (stA c.first q) 47)) fun e w' => (∃ v rows, e = .returned (.tuple #[v, .int .i64 (clE c (seeP p) [c.first]).1]) ∧ Own w' (W.heap.size + 1) 47 4 eQ v rows ∧ rows.map (·.1) = (clE c (seeP p) [c.first]).2 ∧ ∀ x ∈ rows, Far (fun b => b < B0) w' x) ∧ Below (W.heap.size + 1) (W.alloc (.cells (stA c.first q) 47)) w') := fun B0 q W hb hB0 hs => by
  have hb2 : Below W.heap.size W (W.alloc (.cells (stA c.first q) 47)) := wa1 _ _
  have hb3 := xAa hb hb2
  have hsg : Seg (W.alloc (.cells (stA c.first q) 47)) (W.alloc (.cells (stA c.first q) 47)).heap.size 4 eQ (some ⟨W.heap.size, 0, none⟩) [(c.first, q)] := xEu xCh (Blk.new W 47 (stA c.first q))
  have h := xFp (fun b => b < B0) c m p [(c.first, q)] (some ⟨W.heap.size, 0, none⟩) 1 (W.alloc (.cells (stA c.first q) 47)) (xBx hT hb3) (hC.then_ hb3) hc hp hsg (fun b hb => by simp; omega) (fun x hx => by rw [List.mem_singleton.1 hx]; exact hs.then_ hb2) (fun x hx => by rw [List.mem_singleton.1 hx]; exact xDe hc) (by simp)
  rw [show (W.alloc (.cells (stA c.first q) 47)).heap.size = W.heap.size + 1 by simp] at h
  exact h
 obtain ⟨B, hB⟩ : ∃ B, clE c (seeP p) [c.first] = B := ⟨_, rfl⟩
 have hcs : Hid (B = (3, []) ∨ ∃ R, B = (0, R)) := by
  unfold Hid
  rcases xEo (c := c) (seeP p) [c.first] with ⟨h, _⟩ | ⟨R, h, _⟩
  ·exact .inl (hB.symm.trans h)
  ·exact .inr ⟨R, hB.symm.trans h⟩
 rw [hB] at HCL ⊢
 have t1 : decide (p < 0) = false := qzN (by omega)
 have t2 : decide (c.par ≤ p) = false := qzN (by omega)
 clear hT hC hc hp hst hB
 go_enter Tryz.func29, Tryz.ntmps29
 go_upto_region 1 with (fail)
 refine xAi ?_
 intro X hX
 have ga : Blk X w.heap.size 27 (coA c m) := by rw [hX]; exact (Blk.new _ _ _).alloc _
 have gr : Blk X (w.heap.size + 1) 39 zB := by rw [hX]; exact xA0 (by simp)
 have HB : Hid (Below w.heap.size w X) := by unfold Hid; rw [hX]; (repeat first | exact Below.refl _ _ | refine xAc ?_ _)
 obtain ⟨br, ebr⟩ : ∃ b, w.heap.size + 1 = b := ⟨_, rfl⟩
 obtain ⟨ba, eba⟩ : ∃ b, w.heap.size = b := ⟨_, rfl⟩
 have lbr : Hid (w.heap.size ≤ br) := by unfold Hid; omega
 rw [ebr] at gr ⊢
 rw [eba] at ga ⊢
 clear hX ebr eba
 go_upto_region 2 with (first | (refine rowC (by rfl) _ rfl ba rfl ga ?_; simp only [Act.put, qzG, qzH, qzI]) | (go_at_call 21; (with_reducible refine (HST.out X HB.out).mono ?_); rintro e w1 ⟨⟨q0, rfl, hs0, ho0, ht0⟩, hb1⟩) | (refine xAh rfl 47 _ _ rfl w1.heap.size 47 [] zS.toList [] (stA c.first q0).toList rfl rfl (Blk.new _ _ _) rfl (by kernel_rfl) (by simp [Value.oneCell']) ?_; intro w2 g2 u2))
 have hb12 : Below w1.heap.size w1 w2 := (wa1 _ _).trans (u2.b _ (Nat.le_refl _))
 have h12 := xAa hb1 hb12
 have ga2 := ga.then_ h12
 have GR2 := qzL (gr.then_ h12)
 have HB2 := qzL (xAa HB.out h12)
 have gs2 : Blk w2 w1.heap.size 47 (stA c.first q0) := g2
 have hF1 : Far (fun b => b < X.heap.size) w1 (c.first, q0) := Far.of (B := X.heap.size) ⟨hs0, ho0, ht0⟩ fun b hb => hb
 have HS2 := qzL (hF1.then_ hb12)
 have lX : Hid (X.heap.size ≤ w2.heap.size ∧ br < X.heap.size ∧ w.heap.size ≤ X.heap.size) := ⟨h12.size, gr.lt, HB.out.size⟩
 have k0 : w2.cell? ⟨ba, 0, none⟩ = some (.int .i64 c.par) := ga2.cell 0
 obtain ⟨bs, ebs⟩ : ∃ b, w1.heap.size = b := ⟨_, rfl⟩
 rw [ebs] at gs2 ⊢
 clear ga gr HST hb1 hs0 ho0 ht0 g2 u2 ebs hb12 h12 HB hF1
 have HC2 := qzL (HCL.out X.heap.size q0 w2 HB2.out lX.out.1 HS2.out)
 clear HCL
 go_upto_region 5 with (first | (refine rowC (by rfl) _ rfl ba rfl ga2 ?_; simp only [Act.put, qzG, qzH, qzI]) | (refine xAf (by rfl) 47 _ rfl bs rfl 47 _ gs2 ⟨_, Tryz.underlying47⟩ (by kernel_rfl) ?_; simp only [Act.put, qzG, qzH, qzI]) | (go_at_call 52; (with_reducible refine HC2.out.mono ?_); rintro e w3 ⟨⟨v, rows, rfl, hO, hrw, hst⟩, hb3⟩))
 have hb23 : Below w2.heap.size w2 w3 := (wa1 _ _).trans (hb3.mono (by omega))
 have HO := qzL hO
 have HBW := qzL HB2.out.size
 have HRW := qzL hrw
 have HSM := qzL hst
 have HB3 := qzL (xAa HB2.out hb23)
 have gr3 := GR2.out.then_ hb23
 clear hO hrw hst hb3 hb23 GR2 HB2 ga2 gs2 k0 HC2 HS2
 rcases hcs.out with hB | ⟨R, hB⟩
 ·subst hB
  clear hcs
  go_wp2_with (refine xAh rfl 39 _ _ rfl br 39 [] zB.toList [] zB.toList rfl rfl gr3 rfl (by kernel_rfl) (by simp [Value.oneCell']) ?_; intro w9 g9 u9)
  refine bodyPost_ret (xBp rfl rfl g9 ⟨_, Tryz.underlying39⟩ (by kernel_rfl)) rfl ?_
  exact BRet.none (by decide) (HB3.out.trans (u9.b _ lbr.out))
 ·subst hB
  clear hcs
  obtain ⟨A9, c9, rfl, _, _⟩ := HO.out.seg xCh
  go_wp2_with (refine xAh rfl 39 _ _ rfl br 39 [] zB.toList [] [.int .i64 p, .slice A9 rows.length c9] rfl rfl gr3 rfl (by kernel_rfl) (by simp [Value.oneCell']) ?_; intro w9 g9 u9)
  refine bodyPost_ret (xBp rfl rfl g9 ⟨_, Tryz.underlying39⟩ (by kernel_rfl)) rfl ?_
  have hk : Kept w3 w9 (fun b => b < X.heap.size) := Kept.of_upd u9 lX.out.2.1
  have hOe : Own w9 w.heap.size 47 4 eQ (.slice A9 rows.length c9) rows := (HO.out.upd u9 (HO.out.ne_ (by have := lX.out; omega))).more (by have := HBW.out; omega)
  exact ⟨⟨_, rows, rfl, hOe, HRW.out, fun x hx => ((HSM.out x hx).kept hk).sub fun b hb => by have := lX.out; omega⟩, HB3.out.trans (u9.b _ lbr.out)⟩
end Go.Proofs.YtffceokjeonpcaaGreatDoor
