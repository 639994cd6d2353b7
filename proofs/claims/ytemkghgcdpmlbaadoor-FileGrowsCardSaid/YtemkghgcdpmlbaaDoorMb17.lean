/- Contracts of functions and plain laws, joined: Krj. -/
import Derived.Test.YtemkghgcdpmlbaaDoorMb11
import Derived.Test.YtemkghgcdpmlbaaDoorMb4
import Derived.Test.YtemkghgcdpmlbaaDoorMb14
/- The walk of the reference's Small at contracts. -/
namespace Go.Proofs.YtemkghgcdpmlbaaDoor
open Go.RowKit

def Con.small (c : Con) (n : Int) : Bool := !(decide ((20 : Int) < (c.hold.length : Int)) || decide ((30 : Int) < (c.un.length : Int)) || decide ((70 : Int) < (c.ac.length : Int)) || decide ((n : Int) < (c.cl.length : Int)) || decide ((100 : Int) < (c.off.length : Int))) && c.cl.all fun k => !decide ((20 : Int) < (k.start.length : Int))
set_option maxRecDepth 100000 in
set_option maxHeartbeats 3200000 in
theorem rsmallc_any (c : Con) (m : Cm) (n : Int) (w : World) (hk : Seg w w.heap.size 16 eK m.k m.ks) (he : m.ks.map (·.k) = c.cl) (hn : n ≤ 1000000) : Calls Tryd.prog 9 #[.agg (coA c m), .int .i64 n] w fun e w' => e = .returned (.bool (c.small n)) ∧ Below w.heap.size w w' := by
  have HK := Lib.hid hk
  have HE := Lib.hid he
  obtain ⟨e0, E0⟩ : ∃ x, decide ((20 : Int) < (c.hold.length : Int)) = x := ⟨_, rfl⟩
  obtain ⟨e1, E1⟩ : ∃ x, decide ((30 : Int) < (c.un.length : Int)) = x := ⟨_, rfl⟩
  obtain ⟨e2, E2⟩ : ∃ x, decide ((70 : Int) < (c.ac.length : Int)) = x := ⟨_, rfl⟩
  obtain ⟨e3, E3⟩ : ∃ x, decide ((n : Int) < (c.cl.length : Int)) = x := ⟨_, rfl⟩
  obtain ⟨e4, E4⟩ : ∃ x, decide ((100 : Int) < (c.off.length : Int)) = x := ⟨_, rfl⟩
  have hf : Hid (c.small n = (!(e0 || e1 || e2 || e3 || e4) && c.cl.all fun k => !decide ((20 : Int) < (k.start.length : Int)))) := by unfold Hid Con.small; rw [E0, E1, E2, E3, E4]
  have h3 : Hid ((e0 || e1 || e2 || e3 || e4) = false → c.cl.length ≤ 1000000) := by
    intro h
    simp only [Bool.or_eq_false_iff] at h
    have h2 := h.1.2
    rw [← E3] at h2
    simp at h2
    omega
  have hkl : m.ks.length = c.cl.length := by have := congrArg List.length he; simpa using this
  have HKL := Lib.hid hkl
  clear hk he hkl
  go_enter Tryd.func9, Tryd.ntmps9
  go_upto_region 1 with (fail)
  refine name_wp ?_
  intro X hX
  have gbc : Blk X w.heap.size 27 (coA c m) := by rw [hX]; exact blk_at (by simp)
  have HB : Below w.heap.size w X := by rw [hX]; (repeat (first | with_reducible assumption | with_reducible exact Below.refl _ _ | with_reducible refine below_drewN ?_ _ | with_reducible refine Below.drew ?_ | with_reducible refine below_alloc ?_ _ | with_reducible refine Below.setCell ?_ (by first | omega | (simp; done) | (simp; omega)) _ | with_reducible refine below_then ?_ (by with_reducible assumption) | (refine below_then (a := World.drew _) ?_ (by with_reducible assumption))))
  clear hX
  obtain ⟨bc, ebc⟩ : ∃ b, w.heap.size = b := ⟨_, rfl⟩
  have lbc : w.heap.size ≤ bc := by omega
  rw [ebc] at gbc ⊢
  clear ebc
  have GB := Lib.hid gbc
  have HBX := Lib.hid HB
  clear HB
  go_upto_region 1 with (fail)
  go_cut [34] from 6 to 34 (fun v W => v = .bool (e0 || e1 || e2 || e3 || e4) ∧ X = W)
  case first =>
    have p1 : X.cell? ⟨bc, 1, none⟩ = some (.slice m.h c.hold.length m.hc) := gbc.cell 1
    have p2 : X.cell? ⟨bc, 2, none⟩ = some (.slice m.u c.un.length m.uc) := gbc.cell 2
    have p3 : X.cell? ⟨bc, 3, none⟩ = some (.slice m.a c.ac.length m.ac) := gbc.cell 3
    have p4 : X.cell? ⟨bc, 4, none⟩ = some (.slice m.k c.cl.length m.kc) := gbc.cell 4
    have p6 : X.cell? ⟨bc, 6, none⟩ = some (.slice m.o c.off.length m.oc) := gbc.cell 6
    clear gbc hn
    cases e0
    case true => (go_wp2; go_meet; (case rel => exact ⟨by simp, rfl⟩))
    cases e1
    case true => (go_wp2; go_meet; (case rel => exact ⟨by simp, rfl⟩))
    cases e2
    case true => (go_wp2; go_meet; (case rel => exact ⟨by simp, rfl⟩))
    cases e3
    case true => (go_wp2; go_meet; (case rel => exact ⟨by simp, rfl⟩))
    cases e4
    case true => (go_wp2; go_meet; (case rel => exact ⟨by simp, rfl⟩))
    case false => (go_wp2; go_meet; (case rel => exact ⟨by simp, rfl⟩))
  obtain ⟨rfl, rfl⟩ := hcut
  cases hb0 : (e0 || e1 || e2 || e3 || e4) with
  | true =>
    have hr : Hid (c.small n = false) := by unfold Hid; rw [hf.out, hb0]; rfl
    clear hb0 hf h3 gbc E0 E1 E2 E3 E4
    go_wp2
    go_ret
    exact ⟨ret_bool hr.out.symm, HBX.out⟩
  | false =>
  have hl := h3.out hb0
  have hr : Hid (c.small n = c.cl.all fun k => !decide ((20 : Int) < (k.start.length : Int))) := by unfold Hid; rw [hf.out, hb0]; rfl
  clear hb0 hf h3 gbc E0 E1 E2 E3 E4
  go_upto_region 4 with (fail)
  go_loopw [5] (fun y WR => ∃ (i : Nat), i ≤ c.cl.length ∧ y = .int .i64 i ∧ Hid (∀ j k, j < i → c.cl[j]? = some k → decide ((20 : Int) < (k.start.length : Int)) = false) ∧ Hid (Below X.heap.size X WR)) (fun y _ => 2000000 - (intOf y).toNat)
  case atStart => exact ⟨0, by omega, rfl, (fun j k hj => by omega), Below.refl _ _⟩
  case round =>
    obtain ⟨i, hi', rfl, hpre, hB⟩ := hrel
    have p4 : wr.cell? ⟨bc, 4, none⟩ = some (.slice m.k c.cl.length m.kc) := (GB.out.then_ hB.out).cell 4
    by_cases hlt : i < c.cl.length
    · have tn : decide ((i : Int) < (c.cl.length : Int)) = true := decide_eq_true (by omega)
      obtain ⟨k0, hk0⟩ : ∃ k, c.cl[i]? = some k := ⟨_, List.getElem?_eq_getElem hlt⟩
      obtain ⟨x, hx, hxk⟩ := km_at HE.out hk0
      obtain ⟨b0, o0, eA0, hb0, hc0⟩ := segAt (HK.out.below (below_then HBX.out hB.out)) hx
      have x4 : wr.cell? ⟨b0, o0 + i * 16 + 4, none⟩ = some (.slice x.A x.k.start.length x.cap) := hc0 4 _ rfl
      have hix := fun W => idx_at (t := 25) (size := 16) (cap := m.kc) (len := c.cl.length) eA0 hlt (by kernel_rfl) (fun W => by kernel_rfl) W
      have HX0 := Lib.hid hk0
      have HXK := Lib.hid hxk
      clear hc0 hx hk0 hxk eA0
      have hwr := wrap_small (n := i) (by omega)
      cases ht : decide ((20 : Int) < (x.k.start.length : Int)) with
      | true =>
        have hq : Hid (c.small n = false) := by
          unfold Hid
          rw [hr.out]
          refine Bool.eq_false_iff.2 fun h => ?_
          have := List.all_eq_true.1 h k0 (List.mem_of_getElem? HX0.out)
          rw [← HXK.out, ht] at this
          cases this
        clear hpre
        go_wp2
        go_ret
        exact ⟨ret_bool hq.out.symm, below_then HBX.out hB.out⟩
      | false =>
        have hp2 : Hid (∀ j k, j < i + 1 → c.cl[j]? = some k → decide ((20 : Int) < (k.start.length : Int)) = false) := by
          intro j k hj hk
          by_cases q : j = i
          · rw [q, HX0.out] at hk
            cases hk
            rw [← HXK.out]
            exact ht
          · exact hpre.out j k (by omega) hk
        clear hpre
        go_wp2
        go_roundw
        case rel => exact ⟨i + 1, by omega, by simp, hp2, hB.out⟩
        case measure => simp [intOf]; omega
    · have tn : decide ((i : Int) < (c.cl.length : Int)) = false := decide_eq_false (by omega)
      have hq : Hid (c.small n = true) := by
        unfold Hid
        rw [hr.out]
        refine List.all_eq_true.2 fun k hk => ?_
        obtain ⟨j, hj, e⟩ := List.getElem_of_mem hk
        rw [hpre.out j k (by omega) (by rw [← e]; exact List.getElem?_eq_getElem hj)]
        rfl
      clear hpre
      go_wp2
      go_ret
      exact ⟨ret_bool hq.out.symm, below_then HBX.out hB.out⟩
end Go.Proofs.YtemkghgcdpmlbaaDoor
