/- The check badUnit at a subject. -/
import Derived.Test.YtcfjehohemdanaaDoorTb7
import Derived.Deep.CutRange
namespace Go.Proofs.YtcfjehohemdanaaDoor
open Go.RowKit Go.Sort

set_option maxRecDepth 100000 in
set_option maxHeartbeats 3200000 in
theorem badUn_any (s : Sy) (m : Sm) (k n : Nat) (u b : Un) (w : World) (hk : s.un[k]? = some u) (hn : u.base = (n : Int)) (hb : s.un[n]? = some b) (hcap : s.un.length ≤ m.uc) (hlen : s.un.length ≤ 1000000) (hs : Seg w w.heap.size 5 encUn m.u s.un) :
    Calls Tryd.prog 25 #[.agg (sbA s m k)] w fun e w' => e = .returned (.bool (badUn s k u)) ∧ Below w.heap.size w w' := by
  obtain ⟨bU, oU, ea, hbU, hc⟩ := segUn hs hk
  have u0 : w.cell? ⟨bU, oU + k * 5, none⟩ = some (.string u.nm) := hc 0 _ rfl
  have u1 : w.cell? ⟨bU, oU + k * 5 + 1, none⟩ = some (.int .i64 u.kind) := hc 1 _ rfl
  have u2 : w.cell? ⟨bU, oU + k * 5 + 2, none⟩ = some (.int .i64 u.base) := hc 2 _ rfl
  have u3 : w.cell? ⟨bU, oU + k * 5 + 3, none⟩ = some (.int .i64 u.f.1) := hc 3 _ rfl
  have u4 : w.cell? ⟨bU, oU + k * 5 + 4, none⟩ = some (.int .i64 u.f.2) := hc 4 _ rfl
  have hlt : k < s.un.length := (List.getElem?_eq_some_iff.1 hk).1
  have hBU : Hid (badUn s k u = (emp u.nm || (u.kind != 1 && u.kind != 2) || (s.un.take k).any (fun o => o.nm.toList == u.nm.toList) || (b.kind != u.kind || b.base != u.base || (u.base == k && u.f != (1, 1))))) := by
    unfold Hid badUn; rw [show s.un[u.base.toNat]? = some b by rw [hn]; exact hb]
  have HS := Lib.hid hs
  have HN := Lib.hid hn
  have HB := Lib.hid hb
  clear hc hk hs hn hb
  unfold sbA
  rw [ea]
  go_enter Tryd.func25, Tryd.ntmps25
  go_upto_region 3 with (fail)
  refine name_wp ?_
  intro X hX
  have hbX : Below w.heap.size w X := by rw [hX]; exact below_alloc (wa1 _ _) _
  have s18 : X.cell? ⟨w.heap.size, 18, none⟩ = some (.int .i64 k) := by rw [hX]; exact ((Blk.new _ _ _).alloc _).cell 18
  have gB : Blk X (w.heap.size + 1) 82 #[.string u.nm, .int .i64 u.kind, .int .i64 u.base, .int .i64 u.f.1, .int .i64 u.f.2] := by rw [hX]; exact blk_new1 _ _ _ _
  have y0 := gB.cell 0
  have y1 := gB.cell 1
  have y2 := gB.cell 2
  have y3 := gB.cell 3
  have y4 := gB.cell 4
  simp at y0 y1 y2 y3 y4
  have sz0 := block_lt_of_cell s18
  have sz1 := gB.lt
  obtain ⟨B1, hB1⟩ : ∃ B1, w.heap.size + 1 = B1 := ⟨_, rfl⟩
  rw [hB1] at y0 y1 y2 y3 y4 sz1
  rw [hB1]
  obtain ⟨B0, hB0⟩ : ∃ B0, w.heap.size = B0 := ⟨_, rfl⟩
  have HB0 := Lib.hid hB0
  have HBX := Lib.hid hbX
  rw [hB0] at s18 sz0
  rw [hB0]
  clear hX gB hbX hB0 hB1 u0 u1 u2 u3 u4 hbU
  go_cut [15, 28] from 16 to 28 (fun _ v W => v = .bool (emp u.nm || (u.kind != 1 && u.kind != 2)) ∧ W = X)
  case first =>
    go_wp2
    all_goals go_meet
    all_goals (case rel => exact ⟨congrArg Value.bool (by first | (simp_all [emp]; done) | (simp_all [emp]; intros; omega)), rfl⟩)
  case rest =>
    obtain ⟨hv, hw⟩ := hcut
    subst hv
    replace hw := hw.symm
    subst hw
    cases h1 : (emp u.nm || (u.kind != 1 && u.kind != 2)) with
    | true =>
      have hf : Hid (badUn s k u = true) := by unfold Hid; rw [hBU.out, h1]; simp
      go_wp2
      go_ret
      exact ⟨ret_bool hf.out.symm, HB0.out ▸ HBX.out⟩
    | false =>
      have HBU : Hid (badUn s k u = ((s.un.take k).any (fun o => o.nm.toList == u.nm.toList) || (b.kind != u.kind || b.base != u.base || (u.base == k && u.f != (1, 1))))) := by unfold Hid; rw [hBU.out, h1]; simp
      clear h1
      go_upto_region 6 with (fail)
      go_loopw [34, 36, 37, 6, 38, 39, 40, 41, 42, 43] (fun y _ _ _ _ _ _ _ _ _ WR => ∃ j : Nat, j ≤ k ∧ y = .int .i64 j ∧ Hid ((s.un.take j).any (fun o => o.nm.toList == u.nm.toList) = false) ∧ Below X.heap.size X WR) (fun y _ _ _ _ _ _ _ _ _ _ => 2000000 - (intOf y).toNat)
      case atStart => exact ⟨0, by omega, rfl, rfl, Below.refl _ _⟩
      case round =>
        obtain ⟨j, hj, rfl, hN, hbr⟩ := hrel
        have HBR := Lib.hid hbr
        by_cases hlt2 : j < k
        · obtain ⟨y, hy⟩ : ∃ y, s.un[j]? = some y := ⟨_, List.getElem?_eq_getElem (by omega)⟩
          obtain ⟨b1, o1, ec, hb1, hc⟩ := segUn ((HS.out.below HBX.out).below (hbr.mono HBX.out.size)) hy
          rw [ea] at ec
          cases ec
          have v0 : wr.cell? ⟨bU, oU + j * 5, none⟩ = some (.string y.nm) := hc 0 _ rfl
          have v1 : wr.cell? ⟨bU, oU + j * 5 + 1, none⟩ = some (.int .i64 y.kind) := hc 1 _ rfl
          have v2 : wr.cell? ⟨bU, oU + j * 5 + 2, none⟩ = some (.int .i64 y.base) := hc 2 _ rfl
          have v3 : wr.cell? ⟨bU, oU + j * 5 + 3, none⟩ = some (.int .i64 y.f.1) := hc 3 _ rfl
          have v4 : wr.cell? ⟨bU, oU + j * 5 + 4, none⟩ = some (.int .i64 y.f.2) := hc 4 _ rfl
          have k0 := (hbr.cell (p := ⟨B1, 0, none⟩) sz1).trans y0
          have hB2 : B1 < wr.heap.size := Nat.lt_of_lt_of_le sz1 hbr.size
          have htk : Hid ((s.un.take (j + 1)).any (fun o => o.nm.toList == u.nm.toList) = (y.nm.toList == u.nm.toList)) := by
            unfold Hid
            obtain ⟨h1, rfl⟩ := List.getElem?_eq_some_iff.1 hy
            rw [List.take_succ_eq_append_getElem h1, List.any_append, hN.out]
            simp
          clear hbr hy hc y0 y1 y2 y3 y4 s18
          by_cases hq : y.nm.toList = u.nm.toList
          · have hqq : (y.nm.toList == u.nm.toList) = true := by simpa using hq
            have hf : Hid (badUn s k u = true) := by
              unfold Hid
              have h4 : (s.un.take k).any (fun o => o.nm.toList == u.nm.toList) = true := by
                rw [← List.take_append_drop (j + 1) (s.un.take k), List.any_append, List.take_take, Nat.min_eq_left (by omega), htk.out, hqq, Bool.true_or]
              rw [HBU.out, h4, Bool.true_or]
            go_wp2
            go_ret
            exact ⟨ret_bool hf.out.symm, HB0.out ▸ below_then HBX.out (below_alloc HBR.out _)⟩
          · have hqq : (y.nm.toList == u.nm.toList) = false := by simpa using hq
            have hf : Hid ((s.un.take (j + 1)).any (fun o => o.nm.toList == u.nm.toList) = false) := by unfold Hid; rw [htk.out, hqq]
            go_wp2
            go_roundw
            case rel => exact ⟨j + 1, by omega, by go_num, hf, below_alloc HBR.out _⟩
            case measure => simp [intOf]; omega
        · obtain rfl : j = k := by omega
          have hf : Hid (badUn s j u = (b.kind != u.kind || b.base != u.base || (u.base == j && u.f != (1, 1)))) := by unfold Hid; rw [HBU.out, hN.out]; simp
          obtain ⟨b1, o1, ec, hb1, hc⟩ := segUn ((HS.out.below HBX.out).below (hbr.mono HBX.out.size)) HB.out
          rw [ea] at ec
          cases ec
          have v0 : wr.cell? ⟨bU, oU + n * 5, none⟩ = some (.string b.nm) := hc 0 _ rfl
          have v1 : wr.cell? ⟨bU, oU + n * 5 + 1, none⟩ = some (.int .i64 b.kind) := hc 1 _ rfl
          have v2 : wr.cell? ⟨bU, oU + n * 5 + 2, none⟩ = some (.int .i64 b.base) := hc 2 _ rfl
          have v3 : wr.cell? ⟨bU, oU + n * 5 + 3, none⟩ = some (.int .i64 b.f.1) := hc 3 _ rfl
          have v4 : wr.cell? ⟨bU, oU + n * 5 + 4, none⟩ = some (.int .i64 b.f.2) := hc 4 _ rfl
          have hln : n < s.un.length := (List.getElem?_eq_some_iff.1 HB.out).1
          have k1 := (hbr.cell (p := ⟨B1, 1, none⟩) sz1).trans y1
          have k2 := (hbr.cell (p := ⟨B1, 2, none⟩) sz1).trans y2
          have k3 := (hbr.cell (p := ⟨B1, 3, none⟩) sz1).trans y3
          have k4 := (hbr.cell (p := ⟨B1, 4, none⟩) sz1).trans y4
          have k18 := (hbr.cell (p := ⟨B0, 18, none⟩) sz0).trans s18
          have hB1' : B0 < wr.heap.size := Nat.lt_of_lt_of_le sz0 hbr.size
          have hB2 : B1 < wr.heap.size := Nat.lt_of_lt_of_le sz1 hbr.size
          rw [HN.out] at k2
          rw [HN.out] at hf
          clear hbr hc y0 y1 y2 y3 y4 s18 hcap
          go_wp2
          all_goals go_ret
          all_goals exact ⟨ret_bool (by rw [hf.out]; first | (simp_all [Prod.ext_iff]; done) | (simp_all [Prod.ext_iff]; omega)), HB0.out ▸ below_then HBX.out (below_alloc HBR.out _)⟩
end Go.Proofs.YtcfjehohemdanaaDoor
