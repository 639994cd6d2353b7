/- The walk of slices.Clone at a slice of bools, and of cascade.Defaults. -/
import Derived.Test.YteoicnhnpailiaaCb7
import Derived.Laws.AppendOwn
namespace Go.Proofs.Yteoicnhnpailiaa
open Go.RowKit Go.Sort

theorem encB_len (x : Bool) : (encB x).length = 1 := rfl
/-- a slice of bools, as the callers see it -/
def GotB (B : Nat) (w' : World) (l : List Bool) (v : Value) : Prop := Own w' B 4 1 encB v l
theorem flatB (l : List Bool) : l.flatMap encB = l.map Value.bool := by
  induction l with
  | nil => rfl
  | cons a l ih => simp [encB, ih]
theorem own0 (w : World) {B : Nat} (hB : B ≤ w.heap.size) (T : TypeId) : (w.alloc (.cells #[] T)).ownsRow B T 1 (.slice (some ⟨w.heap.size, 0, none⟩) 0 0) 0 [] :=
  ⟨by simp, .inr ⟨w.heap.size, 0, #[], rfl, hB, heap_alloc_new _ _, Nat.le_refl _, by decide, by simp, by simp⟩⟩
theorem srcB {w w' : World} {A : Addr} {l : List Bool} (h : Seg w w.heap.size 1 encB (some A) l) (hb : Below w.heap.size w w') : ∀ j u, (l.map Value.bool)[j]? = some u → w'.cell? (A.add j) = some u := by
  intro j u hu
  rw [List.getElem?_map] at hu
  cases hj : l[j]? with
  | none => rw [hj] at hu; cases hu
  | some y =>
    rw [hj] at hu
    cases hu
    obtain ⟨b, off, e, hl, hc⟩ := segB h hj
    cases e
    have := (hb.cell (p := ⟨b, off + j, none⟩) hl).trans hc
    unfold Addr.add
    split
    · rename_i h0; subst h0; simpa using this
    · exact this
theorem oneB (l : List Bool) : ∀ u ∈ l.map Value.bool, u.oneCell' = true := by
  intro u hu
  obtain ⟨_, _, rfl⟩ := List.mem_map.1 hu
  rfl
set_option maxRecDepth 100000 in
set_option maxHeartbeats 1600000 in
theorem clone_any (A : Addr) (c : Nat) (l : List Bool) (w : World) (hl : l.length ≤ 1000) (hs : Seg w w.heap.size 1 encB (some A) l) :
    Calls Try.prog 31 #[.slice (some A) l.length c] w fun e w' => (∃ v, e = .returned v ∧ GotB w.heap.size w' l v) ∧ Below w.heap.size w w' := by
  have HS := Lib.hid hs
  clear hs
  obtain ⟨ri, hi, hz0, hz1, hz2⟩ := info_parts (show (Try.prog.info? 4).map (fun i => (i.zero, i.size, i.bytes)) = some (some (.bool false), 1, 1) by kernel_rfl)
  go_enter Try.func31, Try.ntmps31
  have heq : ∀ W : World, (binOp .eql 30 (.slice (some A) l.length c) (.slice none 0 0)).run Try.prog W = .ok (.bool false) W := fun W => by kernel_rfl
  go_upto_region 3 with (fail)
  go_wp2_with (at_builtin; go_loud (refine wpList_append_own _ rfl (.tmp 5) (.tmp 6) _ rfl w.heap.size 4 ri _ 1 1 Try.underlying30 hi hz0 hz1 hz2 rfl (by omega) _ 0 [] rfl (own0 _ (Nat.le_refl _) _) _ l.length c (l.map Value.bool) rfl (by simp) (srcB HS.out (wa1 _ _)) (oneB l) (by unfold maxLen; omega) (by omega) (by simp) ?_); intro v w1 hown hgrow hnil)
  go_ret
  have hO : Own w1 w.heap.size 4 1 encB v l := by
    unfold Own
    rw [flatB]
    simpa using hown
  refine ⟨⟨_, rfl, hO⟩, ?_⟩
  exact (wa1 _ _).grown hgrow (by simp) (fun k hk => by cases hk; exact Nat.le_refl _)
end Go.Proofs.Yteoicnhnpailiaa
