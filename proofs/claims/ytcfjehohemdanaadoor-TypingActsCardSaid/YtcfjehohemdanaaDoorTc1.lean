/- The checks badFactor, badLot, badNumbers at a subject. -/
import Derived.Test.YtcfjehohemdanaaDoorTb6
import Derived.Test.YtcfjehohemdanaaDoorTb7
namespace Go.Proofs.YtcfjehohemdanaaDoor
open Go.RowKit Go.Sort

set_option maxRecDepth 100000 in
set_option maxHeartbeats 1600000 in
theorem badFac_any (s : Sy) (m : Sm) (k : Nat) (u : Un) (w : World) (hk : s.un[k]? = some u) (h1 : b64 u.f.1) (h2 : b64 u.f.2) (hs : Seg w w.heap.size 5 encUn m.u s.un) :
    Calls Tryd.prog 24 #[.agg (sbA s m k)] w fun e w' => e = .returned (.bool (!(psv u.f))) ∧ Below w.heap.size w w' := by
  obtain ⟨bU, oU, ea, hbU, hc⟩ := segUn hs hk
  have u3 : w.cell? ⟨bU, oU + k * 5 + 3, none⟩ = some (.int .i64 u.f.1) := hc 3 _ rfl
  have u4 : w.cell? ⟨bU, oU + k * 5 + 4, none⟩ = some (.int .i64 u.f.2) := hc 4 _ rfl
  have hlt : k < s.un.length := (List.getElem?_eq_some_iff.1 hk).1
  have HP : Hid (∀ W, Calls Tryd.prog 43 #[.agg #[.int .i64 u.f.1, .int .i64 u.f.2]] W fun e w' => e = .returned (.bool (psv u.f)) ∧ Below W.heap.size W w') := fun W => isPos_any _ _ W h1 h2
  clear hc hk hs h1 h2
  unfold sbA
  rw [ea]
  go_enter Tryd.func24, Tryd.ntmps24
  go_wp2_with (go_at_call 43; (with_reducible refine (HP.out _).mono ?_); rintro e w1 ⟨rfl, hb⟩)
  go_ret
  exact ⟨rfl, below_then (wa1 _ _) hb⟩
set_option maxRecDepth 100000 in
set_option maxHeartbeats 1600000 in
theorem badLot_any (s : Sy) (m : Sm) (k : Nat) (a : As) (w : World) (hk : s.ac[k]? = some a) (h1 : b64 a.a.lot.1) (h2 : b64 a.a.lot.2) (hs : Seg w w.heap.size 9 encAs m.a s.ac) :
    Calls Tryd.prog 26 #[.agg (sbA s m k)] w fun e w' => e = .returned (.bool (a.a.unit != -1 && !(psv a.a.lot))) ∧ Below w.heap.size w w' := by
  obtain ⟨b, o, ea, hb, hc⟩ := segAs hs hk
  have a2 : w.cell? ⟨b, o + k * 9 + 2, none⟩ = some (.int .i64 a.a.kind) := hc 2 _ rfl
  have a3 : w.cell? ⟨b, o + k * 9 + 3, none⟩ = some (.int .i64 a.a.role) := hc 3 _ rfl
  have a4 : w.cell? ⟨b, o + k * 9 + 4, none⟩ = some (.int .i64 a.a.give) := hc 4 _ rfl
  have a5 : w.cell? ⟨b, o + k * 9 + 5, none⟩ = some (.int .i64 a.a.to_) := hc 5 _ rfl
  have a6 : w.cell? ⟨b, o + k * 9 + 6, none⟩ = some (.int .i64 a.a.unit) := hc 6 _ rfl
  have a7 : w.cell? ⟨b, o + k * 9 + 7, none⟩ = some (.int .i64 a.a.lot.1) := hc 7 _ rfl
  have a8 : w.cell? ⟨b, o + k * 9 + 8, none⟩ = some (.int .i64 a.a.lot.2) := hc 8 _ rfl
  have hlt : k < s.ac.length := (List.getElem?_eq_some_iff.1 hk).1
  have HP : Hid (∀ W, Calls Tryd.prog 43 #[.agg #[.int .i64 a.a.lot.1, .int .i64 a.a.lot.2]] W fun e w' => e = .returned (.bool (psv a.a.lot)) ∧ Below W.heap.size W w') := fun W => isPos_any _ _ W h1 h2
  clear hc hk hs h1 h2
  obtain ⟨z, hz⟩ : ∃ z, psv a.a.lot = z := ⟨_, rfl⟩
  rw [hz] at HP
  rw [hz]
  clear hz
  unfold sbA
  rw [ea]
  go_enter Tryd.func26, Tryd.ntmps26
  by_cases hu : a.a.unit = -1
  · rw [hu] at a6
    have hf : Hid ((a.a.unit != -1 && !z) = false) := by unfold Hid; rw [hu]; rfl
    clear hu
    go_wp2
    go_ret
    exact ⟨ret_bool hf.out.symm, below_alloc (wa1 _ _) _⟩
  · have hf : Hid ((a.a.unit != -1 && !z) = !z) := by unfold Hid; rw [show (a.a.unit != -1) = true by simpa using hu]; rfl
    go_wp2_with (go_at_call 43; (with_reducible refine (HP.out _).mono ?_); rintro e w1 ⟨rfl, hb⟩)
    go_ret
    exact ⟨ret_bool (by first | rfl | exact hf.out.symm), below_then (below_alloc (wa1 _ _) _) hb⟩
end Go.Proofs.YtcfjehohemdanaaDoor
