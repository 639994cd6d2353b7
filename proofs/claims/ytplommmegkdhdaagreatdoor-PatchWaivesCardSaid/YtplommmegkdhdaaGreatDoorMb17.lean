/- Contracts of functions and plain laws, joined: Ts2. -/
import Derived.Test.YtplommmegkdhdaaGreatDoorMb16
import Derived.Test.YtplommmegkdhdaaGreatDoorMb14
import Derived.Test.YtplommmegkdhdaaGreatDoorMb8
import Derived.Test.YtplommmegkdhdaaGreatDoorMb13
/- The walk of patch.Touches, with the order of its result. -/
namespace Go.Proofs.YtplommmegkdhdaaGreatDoor
open Go.RowKit

theorem take_snocI {l : List (Int × Int)} {i : Nat} {p : Int × Int} (h : l[i]? = some p) : (l.take (i + 1)).map (·.1) = (l.take i).map (·.1) ++ [p.1] := by
  rw [List.take_add_one, h, List.map_append]; rfl
theorem zero_int : (Tryz.prog.info? 3).map (fun i => (i.zero, i.size, i.bytes)) = some (some (.int .i64 0), 1, 8) := by kernel_rfl
theorem one_intT (y : Int) : ∀ u ∈ eI y, u.oneCell' = true := by
  intro u hu
  simp only [eI, List.mem_cons, List.not_mem_nil, or_false] at hu
  rw [hu]; rfl
theorem apply_tt (c C : Con) (m : Cm) (p : Pat) (pm : Pm) (E : Int) (w : World) (h : Cont w c m) (hp : PatM w p pm) (hE : c.apE p = E) (hC : c.apC p = C) :
    Calls Tryz.prog 12 #[.agg (coA c m), .agg (pL p pm)] w fun e w' => (∃ m', e = .returned (.tuple #[.agg (coA C m'), .int .i64 E])) ∧ Below w.heap.size w w' := by
  subst hE
  subst hC
  exact (apply_any c m p pm w h hp).mono fun e w' ⟨⟨m', h1, _, _⟩, hb⟩ => ⟨⟨m', h1⟩, hb⟩
/-- what Touches gives -/
def TchR (c : Con) (p : Pat) (W : World) (e : Ending) (w' : World) : Prop :=
  (∃ (A : Option Addr) (k : Nat) (l : List Int), e = .returned (.tuple #[.slice A l.length k, .int .i64 (c.apE p)]) ∧ Seg w' w'.heap.size 1 eI A l ∧ l.length ≤ 1000000 ∧ (c.apE p = 0 → (∀ x, x ∈ l ↔ x ∈ c.tch p) ∧ l.Pairwise (· < ·)) ∧ (c.apE p ≠ 0 → l = [])) ∧ Below W.heap.size W w'
set_option maxRecDepth 100000 in
set_option maxHeartbeats 6400000 in
theorem touches_any (c : Con) (m : Cm) (p : Pat) (pm : Pm) (w : World) (h : Cont w c m) (hp : PatM w p pm) (h1 : p.cls.length ≤ 500) (h2 : p.new.start.length ≤ 20) :
    Calls Tryz.prog 13 #[.agg (coA c m), .agg (pL p pm)] w fun e w' => TchR c p w e w' := by
  obtain ⟨E, eE⟩ : ∃ E, c.apE p = E := ⟨_, rfl⟩
  obtain ⟨C, eC⟩ : ∃ C, c.apC p = C := ⟨_, rfl⟩
  have HA := Lib.hid (fun W (hb : Below w.heap.size w W) => apply_tt c C m p pm E W (h.then_ hb) (hp.then_ hb) eE eC)
  obtain ⟨ri, hi, hz0, hz1, hz2⟩ := info_parts zero_int
  have HE := Lib.hid eE
  have HP := Lib.hid hp
  have nk := h.nk
  obtain ⟨S, eS'⟩ : ∃ S, p.new.start.length = S := ⟨_, rfl⟩
  obtain ⟨N, eN⟩ : ∃ N, c.cl.length = N := ⟨_, rfl⟩
  obtain ⟨P, eP'⟩ : ∃ P, p.cls.length = P := ⟨_, rfl⟩
  rw [eS'] at h2
  rw [eP'] at h1
  rw [eN] at nk
  have HS := Lib.hid eS'
  have HN := Lib.hid eN
  have HL := Lib.hid eP'
  clear h hp eE eC eS' eN eP'
  go_enter Tryz.func13, Tryz.ntmps13
  go_upto_region 1 with (fail)
  refine name_wp ?_
  intro X hX
  have gbc : Blk X w.heap.size 27 (coA c m) := by rw [hX]; exact (blk_at (by simp)).alloc _
  have gbp : Blk X (w.heap.size + 1) 34 (pL p pm) := by rw [hX]; exact blk_at (by simp)
  have HB : Below w.heap.size w X := by rw [hX]; (repeat (first | with_reducible assumption | with_reducible exact Below.refl _ _ | with_reducible refine below_drewN ?_ _ | with_reducible refine Below.drew ?_ | with_reducible refine below_alloc ?_ _ | with_reducible refine Below.setCell ?_ (by first | omega | (simp; done) | (simp; omega)) _ | with_reducible refine below_then ?_ (by with_reducible assumption) | (refine below_then (a := World.drew _) ?_ (by with_reducible assumption))))
  clear hX
  obtain ⟨bp, ebp⟩ : ∃ b, w.heap.size + 1 = b := ⟨_, rfl⟩
  obtain ⟨bc, ebc⟩ : ∃ b, w.heap.size = b := ⟨_, rfl⟩
  have lbc : w.heap.size ≤ bc := by omega
  have lbp : w.heap.size ≤ bp := by omega
  have nbcbp : bc ≠ bp := by omega
  rw [ebp] at gbp ⊢
  rw [ebc] at gbc ⊢
  clear ebc ebp
  go_upto_region 2 with (first | (refine wpList_row_w (by rfl) 27 _ rfl bc rfl 27 _ gbc ⟨_, Tryz.underlying27⟩ (by kernel_rfl) ?_; simp only [Act.put, List.setIfInBounds_toArray, List.set_cons_succ, List.set_cons_zero]) | (refine wpList_row_w (by rfl) 34 _ rfl bp rfl 34 _ gbp ⟨_, Tryz.underlying34⟩ (by kernel_rfl) ?_; simp only [Act.put, List.setIfInBounds_toArray, List.set_cons_succ, List.set_cons_zero]) | (go_at_call 12; (with_reducible refine (HA.out _ HB).mono ?_); rintro e w1 ⟨⟨m1, rfl⟩, hb1⟩) | (refine wpList_store_all rfl 27 _ _ rfl w1.heap.size 27 [] coZ.toList [] (coA C m1).toList rfl rfl (Blk.new _ _ _) rfl (by kernel_rfl) (by simp [Value.oneCell']) ?_; intro w2 g2 U2))
  have hX : Below X.heap.size X w2 := below_then hb1 ((wa1 _ _).trans (U2.b _ (Nat.le_refl _)))
  have gc2 := gbc.then_ hX
  have gp2 := gbp.then_ hX
  have HB2 := below_then HB hX
  clear gbc gbp HB hX hb1 U2 g2 HA
  by_cases hz : E = 0
  case neg =>
    have t1 : (E != 0) = true := by rw [bne_iff_ne]; exact hz
    have hzz := Lib.hid hz
    clear hz
    go_wp2
    go_ret2
    exact ⟨⟨none, 0, [], by rw [HE.out]; rfl, Seg.nil _ _ _ _ _, by decide, fun h => absurd (HE.out.symm.trans h) hzz.out, fun _ => rfl⟩, HB2⟩
  subst hz
  have q1 : w2.cell? ⟨bp, 1, none⟩ = some (.slice pm.p P pm.pc) := by rw [← HL.out]; exact gp2.cell 1
  have hPS := HP.out.then_ HB2
  have HCL := clone_int pm.p pm.pc p.cls w2 hPS.n hPS.s hPS.c
  rw [HL.out] at HCL
  replace HCL := Lib.hid HCL
  have HPS := Lib.hid hPS
  clear hPS
  go_upto_region 5 with (go_at_call 25; (with_reducible refine HCL.out.mono ?_); rintro e w3 ⟨⟨v3, rfl, hO3⟩, hb3⟩)
  have gc3 := gc2.then_ hb3
  have gp3 := gp2.then_ hb3
  have l3 := hb3.size
  have GP2 := Lib.hid gp2
  clear q1 HCL gc2 gp2
  have q0 : w3.cell? ⟨bp, 0, none⟩ = some (.int .i64 p.kind) := gp3.cell 0
  have q4 : w3.cell? ⟨bc, 4, none⟩ = some (.slice m.k N m.kc) := by rw [← HN.out]; exact gc3.cell 4
  have GP3 := Lib.hid gp3
  clear gp3 gc3
  go_upto_if 25 with (fail)
  clear q0
  go_cut [8] from 25 to 31 (fun v W => ∃ l1, Hid (l1 = p.cls ++ (if p.kind = 1 then [(N : Int)] else [])) ∧ Own W w2.heap.size 3 1 eI v l1 ∧ Below w2.heap.size w2 W)
  case first =>
    by_cases hk : p.kind = 1
    · have tk : (p.kind == 1) = true := by rw [beq_iff_eq]; exact hk
      have HK := Lib.hid hk
      clear hk
      have q4' : w3.cell? ⟨bc, 4, none⟩ = some (.slice m.k N m.kc) := q4
      go_wp2_with (at_builtin; go_loud (refine wpList_app _ rfl (.tmp 26) (.tmp 30) _ rfl w2.heap.size 3 ri _ 1 8 Tryz.underlying22 hi hz0 hz1 hz2 rfl (by omega) (by omega) eI eI_len one_intT _ p.cls rfl (hO3.alloc _) (by rw [HL.out]; omega) w3.heap.size 1 (N : Int) rfl (Blk.new _ _ _) (by simp; omega) ?_); intro v4 w4 hO4 hb4 hg4)
      go_meet
      case rel => exact ⟨_, by unfold Hid; rw [if_pos HK.out], hO4, hb3.trans ((Below.refl _ _).alloc l3 _ |>.trans hb4)⟩
    · have tk : (p.kind == 1) = false := by rw [beq_eq_false_iff_ne]; exact hk
      have HK := Lib.hid hk
      clear hk
      go_wp2
      go_meet
      case rel => exact ⟨p.cls, by unfold Hid; rw [if_neg HK.out, List.append_nil], hO3, hb3⟩
  obtain ⟨l1, HL1, hO5, hb5⟩ := hcut
  obtain ⟨w5, rfl⟩ : ∃ W, W = wc := ⟨_, rfl⟩
  clear q4 hO3 hb3 l3
  have gp5 := GP2.out.then_ hb5
  have q6 : w5.cell? ⟨bp, 6, none⟩ = some (.slice pm.A S pm.cap) := by rw [← HS.out]; exact gp5.cell 6
  have hl1 : l1.length ≤ P + 1 := by rw [HL1.out, List.length_append, HL.out]; split <;> simp
  clear gp5 GP3
  go_upto_region 8 with (fail)
  clear q6
  go_loopw [8, 36] (fun v y WR => ∃ (i : Nat) (V : Value), i ≤ S ∧ V = v ∧ y = .int .i64 i ∧ Hid (Own WR w2.heap.size 3 1 eI V (l1 ++ (p.new.start.take i).map (·.1))) ∧ Hid (Below w2.heap.size w2 WR)) (fun _ y _ => 2000000 - (intOf y).toNat)
  case atStart => exact ⟨0, _, by omega, rfl, rfl, by unfold Hid; simpa using hO5, hb5⟩
  case round =>
    clear hO5 hb5
    obtain ⟨i, V, hi', rfl, rfl, hO, hB⟩ := hrel
    have lB := hB.out.size
    by_cases hlt : i < S
    · have tn : decide ((i : Int) < (S : Int)) = true := decide_eq_true (by omega)
      have tnn : decide (i < S) = true := decide_eq_true hlt
      obtain ⟨s, hs⟩ : ∃ s, p.new.start[i]? = some s := ⟨_, List.getElem?_eq_getElem (by rw [HS.out]; exact hlt)⟩
      obtain ⟨b0, o0, eA0, hb0, hc0⟩ := segAt ((HPS.out.then_ hB.out).k.s) hs
      have hrg : wr.rangeAt b0 (o0 + i * 2) (eS s) := fun j v hv => hc0 j v hv
      have hix := fun W => idx_at (t := 28) (size := 2) (cap := pm.cap) (len := S) (k := i) eA0 hlt (by kernel_rfl) (fun W => by kernel_rfl) W
      have HSS := Lib.hid hs
      have hwi := wrap_small (n := i) (by omega)
      clear hs hc0 eA0
      go_upto_region 10 with (refine wpList_elem 76 elS _ _ _ rfl rfl rfl rfl rfl rfl rfl rfl rfl b0 _ rfl (eS s) rfl hrg (by simp [Value.oneCell', eS]) (by decide) (by simp) (by simp) ?_; simp only [Act.put, List.setIfInBounds_toArray, List.set_cons_succ, List.set_cons_zero])
      refine name_wp ?_
      intro Z hZ
      have z0 : Z.cell? ⟨wr.heap.size, 0, none⟩ = some (.int .i64 s.1) := by rw [hZ]; exact (Blk.new _ _ _).cell 0
      have hOZ : Own Z w2.heap.size 3 1 eI V (l1 ++ (p.new.start.take i).map (·.1)) := by rw [hZ]; exact hO.out.alloc _
      have hBZ : Below w2.heap.size w2 Z := by rw [hZ]; exact hB.out.alloc lB _
      clear hZ hrg hix
      have lZ := hBZ.size
      go_wp2_with (at_builtin; go_loud (refine wpList_app _ rfl (.tmp 40) (.tmp 43) _ rfl w2.heap.size 3 ri _ 1 8 Tryz.underlying22 hi hz0 hz1 hz2 rfl (by omega) (by omega) eI eI_len one_intT _ (l1 ++ (p.new.start.take i).map (·.1)) rfl (hOZ.alloc _) (by rw [List.length_append, List.length_map, List.length_take]; omega) Z.heap.size 1 s.1 rfl (Blk.new _ _ _) (by simp; omega) ?_); intro v4 w4 hO4 hb4 hg4)
      rw [List.append_assoc, ← take_snocI HSS.out] at hO4
      have hB4 := (hBZ.alloc lZ (.cells #[.int .i64 s.1] 3)).trans hb4
      first
      | exact ⟨⟨i + 1, _, by omega, rfl, by simp, hO4, hB4⟩, by simp [intOf]; omega⟩
      | (go_roundw; (case rel => exact ⟨i + 1, _, by omega, rfl, by simp, hO4, hB4⟩); (case measure => simp [intOf]; omega))
    · have tn : decide ((i : Int) < (S : Int)) = false := decide_eq_false (by omega)
      have tnn : decide (i < S) = false := decide_eq_false hlt
      obtain rfl : i = S := by omega
      have hOF := hO.out
      rw [List.take_of_length_le (by rw [HS.out]; exact Nat.le_refl _)] at hOF
      obtain ⟨LL, hLL⟩ : ∃ l, l1 ++ p.new.start.map (·.1) = l := ⟨_, rfl⟩
      rw [hLL] at hOF
      have hlen : LL.length ≤ 1000000 := by rw [← hLL, List.length_append, List.length_map, HS.out]; omega
      have HLL : Hid (∀ x, x ∈ LL ↔ x ∈ c.tch p) := fun x => by rw [← hLL, HL1.out, ← HN.out]; exact Iff.rfl
      obtain ⟨A3, k3, rfl, hk3, hs3⟩ := hOF.seg eI_len
      obtain ⟨n, hn⟩ : ∃ n, LL.length = n := ⟨_, rfl⟩
      rw [hn] at hOF hlen ⊢
      have HSO := Lib.hid (sort_own hOF hn hlen lB)
      have HLN := Lib.hid hn
      clear hLL hO hk3 hs3 hOF hn
      go_wp2_with (first | (go_at_call 28; (with_reducible refine HSO.out.mono ?_); rintro e w6 ⟨rfl, hO6, hb6⟩; have HC6 := Lib.hid (compact_own2 hO6 ((List.length_mergeSort _).trans HLN.out) hlen (Nat.le_trans lB hb6.size))) | (go_at_call 29; (with_reducible refine HC6.out.mono ?_); rintro e w7 ⟨⟨l, rfl, hs7, hm7, hl7⟩, hb7⟩))
      go_ret2
      exact ⟨⟨A3, k3, l, by rw [HE.out]; rfl, hs7, by rw [List.length_mergeSort, HLN.out] at hl7; omega, fun _ => ⟨fun x => by rw [hm7.out, mem_compact, List.mem_mergeSort]; exact HLL.out x, by rw [hm7.out]; exact compact_sorted (sort_sorted _)⟩, fun h => absurd HE.out h⟩, HB2.trans ((hB.out.trans (hb6.trans hb7)).mono HB2.size)⟩
end Go.Proofs.YtplommmegkdhdaaGreatDoor
