/- The law of steps: the states of a run's beginning; a further state is the step of the one before. -/
import Derived.Test.YtginnonjdbpamaaGreatDoorMb32
import Derived.Test.YtginnonjdbpamaaGreatDoorMb1
namespace Go.Proofs.YtginnonjdbpamaaGreatDoor
theorem statesS_take (c : Con) : ∀ (l : List Int) (s : Sta) (n : Nat), n ≤ l.length → (statesS c s l).take (n + 1) = statesS c s (l.take n)
 | [], s, n, h => by
  obtain rfl : n = 0 := by simpa using h
  rfl
 | x :: l, s, 0, _ => by rw [List.take_zero, statesS, statesS]; rfl
 | x :: l, s, n + 1, h => by
  rw [List.take_succ_cons, statesS, statesS, List.take_succ_cons, statesS_take c l _ n (by simpa using h)]
theorem runE_take (c : Con) : ∀ (l : List Int) (s : Sta) (n : Nat), YtginnonjdbpamaaGreatDoor.runE c s l = 0 → YtginnonjdbpamaaGreatDoor.runE c s (l.take n) = 0
 | [], s, n, _ => by rw [List.take_nil]; rfl
 | x :: l, s, 0, _ => rfl
 | x :: l, s, n + 1, h => by
  rw [List.take_succ_cons]
  rw [YtginnonjdbpamaaGreatDoor.runE] at h ⊢
  split at h
  ·next e => rw [if_pos e]; exact runE_take c l _ n h
  ·next e => exact absurd h e
theorem statesS_step (c : Con) : ∀ (l : List Int) (s : Sta) (i : Nat) (s' : Sta) (x : Int), YtginnonjdbpamaaGreatDoor.runE c s l = 0 → (statesS c s l)[i]? = some s' → l[i]? = some x → s'.stepE c x = 0 ∧ (statesS c s l)[i + 1]? = some (s'.step c x)
 | [], s, i, s', x, _, _, h2 => by cases h2
 | y :: l, s, 0, s', x, h, h1, h2 => by
  rw [statesS, qzC] at h1
  cases h1
  cases h2
  rw [YtginnonjdbpamaaGreatDoor.runE] at h
  split at h
  ·next e =>
   refine ⟨e, ?_⟩
   rw [statesS, qzB]
   cases l <;> rfl
  ·next e => exact absurd h e
 | y :: l, s, i + 1, s', x, h, h1, h2 => by
  rw [statesS, qzB] at h1
  rw [qzB] at h2
  rw [YtginnonjdbpamaaGreatDoor.runE] at h
  split at h
  ·next e =>
   obtain ⟨a, b⟩ := statesS_step c l _ i s' x h h1 h2
   refine ⟨a, ?_⟩
   rw [statesS, qzB]
   exact b
  ·next e => exact absurd h e
theorem run_take {c : Con} {l : List Int} (h : c.runE l = 0) {n : Nat} (hn : n ≤ l.length) : c.runE (l.take n) = 0 ∧ c.runS (l.take n) = (c.runS l).take (n + 1) := by
 obtain ⟨h1, h2, h3⟩ := run_zero h
 have e : c.runE (l.take n) = 0 := by
  unfold Con.runE Con.startE
  rw [if_neg (by rw [h1]; decide), if_neg (by rw [List.length_take]; omega)]
  exact runE_take c l _ n h3
 exact ⟨e, by rw [runS_ok e, runS_ok h, statesS_take c l _ n hn]⟩
theorem run_first {c : Con} {l : List Int} (h : c.runE l = 0) : c.startE = 0 ∧ (c.runS l)[0]? = some c.startS := by
 obtain ⟨h1, h2, h3⟩ := run_zero h
 unfold Con.startE Con.startS
 rw [h1, runS_ok h]
 refine ⟨rfl, ?_⟩
 cases l <;> rfl
theorem run_step {c : Con} {l : List Int} (h : c.runE l = 0) {i : Nat} {s : Sta} {x : Int} (h1 : (c.runS l)[i]? = some s) (h2 : l[i]? = some x) : s.stepE c x = 0 ∧ (c.runS l)[i + 1]? = some (s.stepS c x) := by
 obtain ⟨_, _, h3⟩ := run_zero h
 rw [runS_ok h] at h1 ⊢
 obtain ⟨a, b⟩ := statesS_step c l _ i s x h3 h1 h2
 refine ⟨a, ?_⟩
 unfold Sta.stepS
 rw [if_pos a]
 exact b
end Go.Proofs.YtginnonjdbpamaaGreatDoor
