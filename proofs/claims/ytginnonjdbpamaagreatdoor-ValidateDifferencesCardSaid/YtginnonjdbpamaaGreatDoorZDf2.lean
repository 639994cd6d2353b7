/- The changed state put back among the states, and Agrees asked. -/
import Derived.Test.YtginnonjdbpamaaGreatDoorZDf1
import Derived.Test.YtginnonjdbpamaaGreatDoorZHc
import Derived.Test.YtginnonjdbpamaaGreatDoorMb1
namespace Go.Proofs.YtginnonjdbpamaaGreatDoor
open Go.RowKit
theorem own_upd_seg {α : Type} {W V : World} {B gt n cap : Nat} {T : TypeId} {size : Nat} {enc : α → List Value} {A : Option Addr} {xs : List α} (h : Own W B T size enc (.slice A n cap) xs) (he : ∀ x, (enc x).length = size) (UV : Upd W V gt) (hg : gt < B) (hn : n = xs.length) : Seg V V.heap.size size enc A xs ∧ xs.length ≤ cap := by
 subst hn
 obtain ⟨A', c', e, hc, hs⟩ := h.seg he
 injection e with e1 _ e3
 subst e1 e3
 refine ⟨seg_keep hs (by rw [UV.s]; exact Nat.le_refl _) fun a ha => ?_, hc⟩
 rcases h.2 with ⟨e, _⟩ | ⟨g, cap2, cur, e, hg2, _⟩
 ·rw [ha] at e; cases e
 ·rw [ha] at e
  injection e with e4
  injection e4 with e5
  subst e5
  exact UV.f _ (show g ≠ gt by omega)
theorem XS.stm {w4 W V : World} {bx gt : Nat} {x : Sta} {q : Qm} (h : XS w4 W bx x q) (UV : Upd W V gt) (hg : gt < w4.heap.size) (n1 : x.hol.length ≤ 1000000) (n2 : x.used.length ≤ 1000000) (n3 : x.marks.length ≤ 1000000) : Stm V x q := by
 obtain ⟨a1, b1⟩ := own_upd_seg h.oh eI_len UV hg rfl
 obtain ⟨a2, b2⟩ := own_upd_seg h.ou eB_len UV hg rfl
 obtain ⟨a3, b3⟩ := own_upd_seg h.om eM_len UV hg rfl
 exact ⟨a1, a2, a3, n1, n2, n3, b1, b2, b3⟩
theorem dif_agr {c : Con} {m : Cm} {l : List Int} {A Av : Option Addr} {cap ct : Nat} {w w3 w4 W V : World} {bx gt n : Nat} {rows : List (Sta × Qm)} {x' : Sta} {q' : Qm} {R : Int × Bool}
  (hC : Cont w c m) (hA : Seg w w.heap.size 1 eI A l) (nl : l.length ≤ 1000000) (h3 : Below w.heap.size w w3) (h43 : Below w3.heap.size w3 w4) (hS : Stl w3 Av rows) (hX : XS w4 W bx x' q')
  (hOV : Own V w3.heap.size 43 4 eQ (.slice (some ⟨gt, 0, none⟩) rows.length ct) (rows.set n (x', q'))) (UV : Upd W V gt) (hg : w3.heap.size ≤ gt) (hg4 : gt < w4.heap.size)
  (n1 : x'.hol.length ≤ 1000000) (n2 : x'.used.length ≤ 1000000) (n3 : x'.marks.length ≤ 1000000) (nr : rows.length ≤ 1000000) (hR : c.agr l ((rows.map (·.1)).set n x') = R) :
  Calls Tryz.prog 14 #[.agg (coA c m), .slice A l.length cap, .slice (some ⟨gt, 0, none⟩) rows.length ct] V fun e w' => e = .returned (.tuple #[.int .i64 R.1, .bool R.2]) ∧ Below w.heap.size w w' := by
 have hV3 : Below w3.heap.size w3 V := (h43.trans (hX.b.mono h43.size)).trans (UV.b _ hg)
 have hV : Below w.heap.size w V := h3.trans (hV3.mono h3.size)
 have hSt : Stl V (some ⟨gt, 0, none⟩) (rows.set n (x', q')) := by
  refine ⟨(Own.seg_ eQ_len hOV).1, fun y hy => ?_⟩
  rcases List.mem_or_eq_of_mem_set hy with h | rfl
  ·exact (hS.r y h).then_ hV3
  ·exact hX.stm UV hg4 n1 n2 n3
 have h := agr_sl c m l A cap hC hA nl (some ⟨gt, 0, none⟩) ct (rows.set n (x', q')) R (by rw [List.map_set]; exact hR) (by rw [List.length_set]; exact nr) V hV hSt
 rw [List.length_set] at h
 exact h.mono fun e w' ⟨a, b⟩ => ⟨a, below_then hV b⟩
end Go.Proofs.YtginnonjdbpamaaGreatDoor
