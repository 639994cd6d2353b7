/- Lists of bools and of small numbers as arguments, opened; all arguments once more in a later world. -/
import Derived.Test.YteoicnhnpailiaaOpC
namespace Go.Proofs.Yteoicnhnpailiaa
open Go.ChangeShapes Go.WideShapes Go.ChangeAt Go.RowKit Go.Deep

def encU (n : Int) : List Value := [.int .u8 n]
theorem encU_len (n : Int) : (encU n).length = 1 := rfl
section
variable {H : Type} {enc : TypeId × Value → H}
theorem open_bools {w : World} {spare : Nat → Bool} {held : Bool} {b0 : Nat} {v : Value} {d : DataW H} {ps : List MemPlace} (hval : Value.okWide Try.prog w .any b0 30 v) (hd : DataW.Trod enc Try.prog w 0 spare held 30 v d ps) :
    ∃ (A : Option Addr) (l : List Bool) (c : Nat), v = .slice A l.length c ∧ Seg w w.heap.size 1 encB A l := by
  obtain ⟨a0, len, cap, rfl⟩ := okWide_slice Try.underlying30 hval
  obtain ⟨fuel, hf⟩ := hd
  obtain ⟨A, l, c, e, _, _, hs⟩ := open_list encB 1 (fun _ => True) encB_len (by omega) Try.underlying30 (by kernel_rfl) (fun _ _ _ h => by
    obtain ⟨b, h1, _⟩ := DataW.trod_bool Try.underlying4 h
    exact ⟨b, h1, trivial⟩) (show DataW.trod enc Try.prog w 0 spare held fuel 30 [.slice a0 len cap] = some (d, ps) from hf)
  exact ⟨A, l, c, e, hs⟩
theorem open_bytes {w : World} {spare : Nat → Bool} {held : Bool} {b0 : Nat} {v : Value} {d : DataW H} {ps : List MemPlace} (hval : Value.okWide Try.prog w .any b0 38 v) (hd : DataW.Trod enc Try.prog w 0 spare held 38 v d ps) :
    ∃ (A : Option Addr) (l : List Int) (c : Nat), v = .slice A l.length c ∧ (∀ x ∈ l, 0 ≤ x ∧ x ≤ 255) ∧ Seg w w.heap.size 1 encU A l := by
  obtain ⟨a0, len, cap, rfl⟩ := okWide_slice Try.underlying38 hval
  obtain ⟨fuel, hf⟩ := hd
  obtain ⟨A, l, c, e, _, hfit, hs⟩ := open_list encU 1 (fun x => 0 ≤ x ∧ x ≤ 255) encU_len (by omega) Try.underlying38 (by kernel_rfl) (fun _ _ _ h => by
    obtain ⟨n, h1, _, h3⟩ := DataW.trod_int Try.underlying5 h
    refine ⟨n, h1, ?_⟩
    simp [Lit.wf, IntKind.min, IntKind.max, IntKind.signed, IntKind.bits] at h3
    omega) (show DataW.trod enc Try.prog w 0 spare held fuel 38 [.slice a0 len cap] = some (d, ps) from hf)
  exact ⟨A, l, c, e, hfit, hs⟩
theorem below_all {W W' : World} (hb : Below W.heap.size W W') {ts : List TypeId} : ∀ {vs : List Value} {ds : List (DataW H)} {ps : List MemPlace}, (ts.all fun t => Try.prog.readableRec t && decide (t < Try.prog.types.size)) = true →
    DataW.TrodAll enc Try.prog W 0 (fun _ => true) true ts vs ds ps → (∀ x ∈ ps, x.block < W.heap.size) → DataW.TrodAll enc Try.prog W' 0 (fun b => decide (b < W.heap.size)) true ts vs ds ps := by
  induction ts with
  | nil =>
    intro vs ds ps _ h _
    obtain ⟨rfl, rfl, rfl⟩ := trodAll_nil h
    simp [DataW.TrodAll]
  | cons t ts ih =>
    intro vs ds ps ht h hp
    obtain ⟨v, vs', d, ds', p, q, rfl, rfl, rfl, h1, h2⟩ := trodAll_cons h
    rw [List.all_cons, Bool.and_eq_true, Bool.and_eq_true] at ht
    exact trodAll_cons_mk (Below.trod Try.laidOut ht.1.1 (of_decide_eq_true ht.1.2) h1 hb fun x hx => hp x (by simp [hx])) (ih ht.2 h2 fun x hx => hp x (by simp [hx]))
end
theorem wf_u16 {n : Int} (h : (Lit.int .u16 n).wf = true) : 0 ≤ n ∧ n ≤ 65535 := by
  simp [Lit.wf, IntKind.min, IntKind.max, IntKind.signed, IntKind.bits] at h
  omega
end Go.Proofs.Yteoicnhnpailiaa
