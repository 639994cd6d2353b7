/- The walk of Check's closure: one more fault, if there is one. -/
import Derived.Test.YtcfjehohemdanaaDoorTc5
import Derived.Test.YtcfjehohemdanaaDoorOwn2
namespace Go.Proofs.YtcfjehohemdanaaDoor
open Go.RowKit Go.Sort

theorem Own.sl {α : Type} {w : World} {B : Nat} {T : TypeId} {size : Nat} {enc : α → List Value} {v : Value} {xs : List α} (h : Own w B T size enc v xs) : ∃ A cap, v = .slice A xs.length cap := by
  rcases h.2 with ⟨rfl, h0⟩ | ⟨g, cap, cur, rfl, _⟩
  · exact ⟨none, 0, by rw [h0]⟩
  · exact ⟨some ⟨g, 0, none⟩, cap, rfl⟩
def encF (x : Int × Int) : List Value := [.int .i64 x.1, .int .i64 x.2]
theorem encF_len (x : Int × Int) : (encF x).length = 2 := rfl
/-- the faults so far: a variable at block b, its slice made behind it -/
def Fl (W : World) (b : Nat) (xs : List (Int × Int)) : Prop := ∃ v, Blk W b 37 #[v] ∧ Own W (b + 1) 42 2 encF v xs
theorem Fl.then_ {W W' : World} {b : Nat} {xs : List (Int × Int)} (h : Fl W b xs) (hb : Below W.heap.size W W') : Fl W' b xs := by
  obtain ⟨v, h1, h2⟩ := h
  exact ⟨v, h1.then_ hb, h2.below hb⟩
theorem flt_app {e p : Int} {xs : List (Int × Int)} (h : e ≠ 0) : xs ++ flt e p = xs ++ [(e, p)] := by rw [flt, if_neg h]
set_option maxRecDepth 100000 in
set_option maxHeartbeats 3200000 in
theorem find_any (s : Sy) (m : Sm) (i p : Int) (cs : List (Int × FuncId)) (bv : FuncId → Bool) (A : Option Addr) (c : Nat) (xs : List (Int × Int)) (B0 bF : Nat) (W : World) (hlen : cs.length ≤ 1000) (hxl : xs.length ≤ 100000) (hs : Seg W W.heap.size 2 encCk A cs)
    (he : ∀ x ∈ cs, ∀ args W, (callFunc x.2 args).run Tryd.prog W = .ok (.enter x.2 args) W) (hf : ∀ x ∈ cs, ∀ V, Below W.heap.size W V → Calls Tryd.prog x.2 #[.agg (sbA s m i)] V fun e w' => e = .returned (.bool (bv x.2)) ∧ Below V.heap.size V w')
    (hB : Blk W B0 34 (syA s m)) (h0 : B0 < bF) (hF : Fl W bF xs) :
    Calls Tryd.prog 20 #[.slice A cs.length c, .int .i64 i, .int .i64 p, .pointer (some ⟨B0, 0, none⟩), .pointer (some ⟨bF, 0, none⟩)] W fun e w' => e = .returned (.tuple #[]) ∧ Below bF W w' ∧ Fl w' bF (xs ++ flt (fst1 (cs.map fun x => (x.1, bv x.2))) p) := by
  obtain ⟨v, g, hO⟩ := hF
  have lF := g.lt
  have l0 := hB.lt
  have lF2 := Lib.hid lF
  have HCA := Lib.hid (first_any s m i cs bv A c W hlen hs he hf)
  obtain ⟨z, hz⟩ : ∃ z, fst1 (cs.map fun x => (x.1, bv x.2)) = z := ⟨_, rfl⟩
  rw [hz] at HCA ⊢
  have G := Lib.hid g
  have HO := Lib.hid hO
  clear hz hs he hf g hO
  go_enter Tryd.func20, Tryd.ntmps20
  go_upto_region 1 with (first | (refine wpList_row_w (by rfl) 34 _ rfl B0 rfl 34 _ hB ⟨_, Tryd.underlying34⟩ (by kernel_rfl) ?_; simp only [Act.put, List.setIfInBounds_toArray, List.set_cons_succ, List.set_cons_zero]) | (go_at_call 21; (with_reducible refine HCA.out.mono ?_); rintro e w1 ⟨rfl, hb1⟩))
  have g1 := G.out.then_ hb1
  have HB1 := Lib.hid hb1
  have HO1 := Lib.hid (HO.out.below hb1)
  have l1 := g1.lt
  have G1 := Lib.hid g1
  have c1 : w1.cell? ⟨bF, 0, none⟩ = some v := g1.cell 0
  have f1 : w1.frozen? ⟨bF, 0, none⟩ = false := g1.frozen 0
  clear hb1 g1 lF l0 hB G HO HCA
  by_cases hz : z = 0
  · subst hz
    go_wp2
    refine bodyPost_end (results_none rfl _ _ _) rfl ?_
    exact ⟨rfl, HB1.out.mono (Nat.le_of_lt lF2.out), v, G1.out, by rw [show flt 0 p = [] by simp [flt], List.append_nil]; exact HO1.out⟩
  · obtain ⟨ri, hin, hz0, hz1, hz2⟩ := info_parts (show (Tryd.prog.info? 42).map (fun i => (i.zero, i.size, i.bytes)) = some (some (.agg #[.int .i64 0, .int .i64 0]), 2, 16) by kernel_rfl)
    have hzb : (z == 0) = false := by simpa using hz
    have hlx : xs.length ≤ 1000000 := by omega
    go_wp2_with (at_builtin; go_loud (refine wpList_app _ rfl (.tmp 16) (.tmp 20) _ rfl (bF + 1) 42 ri _ 2 16 Tryd.underlying37 hin hz0 hz1 hz2 rfl (by omega) (by omega) encF encF_len (fun u => by intro v hv; simp [encF] at hv; rcases hv with rfl | rfl <;> rfl) _ xs rfl (HO1.out.alloc _) hlx w1.heap.size 1 (z, p) rfl (Blk.new _ _ _) (by simp; omega) ?_); intro v8 V8 hO8 hb8 _; obtain ⟨A8, c8, rfl⟩ := hO8.sl; have g8 : Blk V8 bF 37 #[v] := (G1.out.alloc _).below hb8 (by omega); have x8 : V8.cell? ⟨bF, 0, none⟩ = some v := g8.cell 0; have f8 : V8.frozen? ⟨bF, 0, none⟩ = false := g8.frozen 0; have l8 := g8.lt; have G8 := Lib.hid g8; have HO8 := Lib.hid hO8; have HB8 := Lib.hid hb8; clear hO8 hb8 g8)
    refine bodyPost_end (results_none rfl _ _ _) rfl ?_
    refine ⟨rfl, ?_, _, G8.out.set_ 0 _, ?_⟩
    · exact (((HB1.out.mono (Nat.le_of_lt lF2.out)).trans ((wa1 _ _).mono (Nat.le_of_lt l1))).trans (HB8.out.mono (Nat.le_succ bF))).setCell (Nat.le_refl _) _
    · rw [flt_app hz]
      have h8 := HO8.out.setBelow (p := ⟨bF, 0, none⟩) (Nat.lt_succ_self bF) (.slice A8 (xs.length + 1) c8)
      simp only [List.length_append, List.length_cons, List.length_nil, Nat.zero_add] at h8
      exact h8
end Go.Proofs.YtcfjehohemdanaaDoor
