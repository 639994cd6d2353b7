/- The small checks of typing at a subject: nobody, badNature. -/
import Derived.Test.YtcfjehohemdanaaDoorTb1
namespace Go.Proofs.YtcfjehohemdanaaDoor
open Go.RowKit Go.Sort

/-- a subject: symbols and an index -/
abbrev sbA (s : Sy) (m : Sm) (i : Int) : Array Value := #[.string s.nm, .int .i64 s.y, .int .i64 s.mo, .int .i64 s.dd, .int .i64 s.days, .bool s.wk.1, .bool s.wk.2.1, .bool s.wk.2.2.1, .bool s.wk.2.2.2.1, .bool s.wk.2.2.2.2.1, .bool s.wk.2.2.2.2.2.1, .bool s.wk.2.2.2.2.2.2,
  .slice m.h s.hol.length m.hc, .slice m.p s.par.length m.pc, .slice m.r s.ro.length m.rc, .slice m.u s.un.length m.uc, .slice m.a s.ac.length m.ac, .slice m.c s.cl.length m.cc, .int .i64 i]
theorem segAs {w : World} {B : Nat} {A : Option Addr} {l : List As} {k : Nat} {x : As} (h : Seg w B 9 encAs A l) (hx : l[k]? = some x) :
    ∃ b off, A = some ⟨b, off, none⟩ ∧ b < B ∧ ∀ j u, (encAs x)[j]? = some u → w.cell? ⟨b, off + k * 9 + j, none⟩ = some u := h k x hx
set_option maxRecDepth 100000 in
set_option maxHeartbeats 1600000 in
theorem nobody_any (s : Sy) (m : Sm) (i : Int) (w : World) : Calls Tryd.prog 23 #[.agg (sbA s m i)] w fun e w' => e = .returned (.bool (s.par.isEmpty || s.ro.isEmpty)) ∧ Below w.heap.size w w' := by
  go_enter Tryd.func23, Tryd.ntmps23
  go_wp2
  all_goals go_ret
  all_goals exact ⟨ret_bool (by cases hp : s.par <;> cases hr : s.ro <;> first | (simp_all; done) | (simp_all; omega)), wa1 _ _⟩
set_option maxRecDepth 100000 in
set_option maxHeartbeats 1600000 in
theorem badNat_any (s : Sy) (m : Sm) (k : Nat) (a : As) (w : World) (hk : s.ac[k]? = some a) (hs : Seg w w.heap.size 9 encAs m.a s.ac) :
    Calls Tryd.prog 27 #[.agg (sbA s m k)] w fun e w' => e = .returned (.bool (a.a.role == -1 && (a.a.kind != 1 || a.a.unit != -1))) ∧ Below w.heap.size w w' := by
  obtain ⟨b, o, ea, hb, hc⟩ := segAs hs hk
  have a2 : w.cell? ⟨b, o + k * 9 + 2, none⟩ = some (.int .i64 a.a.kind) := hc 2 _ rfl
  have a3 : w.cell? ⟨b, o + k * 9 + 3, none⟩ = some (.int .i64 a.a.role) := hc 3 _ rfl
  have a4 : w.cell? ⟨b, o + k * 9 + 4, none⟩ = some (.int .i64 a.a.give) := hc 4 _ rfl
  have a5 : w.cell? ⟨b, o + k * 9 + 5, none⟩ = some (.int .i64 a.a.to_) := hc 5 _ rfl
  have a6 : w.cell? ⟨b, o + k * 9 + 6, none⟩ = some (.int .i64 a.a.unit) := hc 6 _ rfl
  have a7 : w.cell? ⟨b, o + k * 9 + 7, none⟩ = some (.int .i64 a.a.lot.1) := hc 7 _ rfl
  have a8 : w.cell? ⟨b, o + k * 9 + 8, none⟩ = some (.int .i64 a.a.lot.2) := hc 8 _ rfl
  have hlt : k < s.ac.length := (List.getElem?_eq_some_iff.1 hk).1
  clear hc hk hs
  unfold sbA
  rw [ea]
  go_enter Tryd.func27, Tryd.ntmps27
  go_wp2
  all_goals go_ret
  all_goals exact ⟨ret_bool (by simp_all), (wa1 _ _).alloc (by simp) _⟩
theorem segCl {w : World} {B : Nat} {A : Option Addr} {l : List Cm} {k : Nat} {x : Cm} (h : Seg w B 24 encCl A l) (hx : l[k]? = some x) :
    ∃ b off, A = some ⟨b, off, none⟩ ∧ b < B ∧ ∀ j u, (encCl x)[j]? = some u → w.cell? ⟨b, off + k * 24 + j, none⟩ = some u := h k x hx
set_option maxRecDepth 100000 in
set_option maxHeartbeats 1600000 in
theorem many_any (s : Sy) (m : Sm) (k : Nat) (x : Cm) (w : World) (hk : m.cs[k]? = some x) (hl : m.cs.length = s.cl.length) (hs : Seg w w.heap.size 24 encCl m.c m.cs) :
    Calls Tryd.prog 29 #[.agg (sbA s m k)] w fun e w' => e = .returned (.bool (decide (8 < x.c.c.start.length))) ∧ Below w.heap.size w w' := by
  obtain ⟨b, o, ea, hb, hc⟩ := segCl hs hk
  have a12 : w.cell? ⟨b, o + k * 24 + 12, none⟩ = some (.slice x.A x.c.c.start.length x.cap) := hc 12 _ rfl
  have hlt : k < s.cl.length := by rw [← hl]; exact (List.getElem?_eq_some_iff.1 hk).1
  clear hc hk hs hl
  unfold sbA
  rw [ea]
  go_enter Tryd.func29, Tryd.ntmps29
  go_wp2
  all_goals go_ret
  all_goals exact ⟨ret_bool (by simp; omega), wa1 _ _⟩
end Go.Proofs.YtcfjehohemdanaaDoor
