/- Plain: what is parsed are ints. -/
import Derived.Test.YtplommmegkdhdaaGreatDoorMb3
namespace Go.Proofs.YtplommmegkdhdaaGreatDoor

theorem parse_64 {t : List UInt8} {p : Pat} (h : parseP t = some p) : ∀ n ∈ p.nums, I64 n := by
  simp only [parseP] at h
  split at h
  · cases h
  · rename_i hc
    injection h with h
    have hb : (parseG (parseR t)).2.bad = false := by
      cases hx : (parseG (parseR t)).2.bad
      · rfl
      · exact absurd (.inl hx) hc
    have hr : (parseG (parseR t)).2.rest = [] := by
      by_cases hx : (parseG (parseR t)).2.rest = []
      · exact hx
      · exact absurd (.inr hx) hc
    generalize hs : parseR t = s at h hb hr
    obtain ⟨Rk, lk⟩ := pairs_back _ hb
    obtain ⟨Rj, j0, j8⟩ := upTo_back Rk.1
    obtain ⟨Ri, i0, i1⟩ := upTo_back Rj.1
    have Rh := six_back Ri.1
    obtain ⟨Rg, g0, g1⟩ := upTo_back Rh.1
    obtain ⟨Rf, f0, f1⟩ := upTo_back Rg.1
    have Re := six_back Rf.1
    obtain ⟨Rd, ld⟩ := many_back _ Re.1
    obtain ⟨Rc, c0, c4⟩ := upTo_back Rd.1
    have Rb := num_back Rc.1
    have Ra := num_back Rb.1
    have R := (((((((((Ra.trans Rb).trans Rc).trans Rd).trans Re).trans Rf).trans Rg).trans Rh).trans Ri).trans Rj).trans Rk
    intro n hn
    refine R.2.2.2.2 n ?_
    rw [← h] at hn
    simp only [Pat.nums, Cla.numsA, six, bit_back f0 f1, bit_back g0 g1, bit_back i0 i1, ld, lk, Int.toNat_of_nonneg c0, Int.toNat_of_nonneg j0, parseG, List.append_assoc, List.cons_append, List.nil_append] at hn ⊢
    exact hn
end Go.Proofs.YtplommmegkdhdaaGreatDoor
