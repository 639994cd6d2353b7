/- The walk of typing.Check. -/
import Derived.Test.YtcfjehohemdanaaDoorTc7
import Derived.Test.YtcfjehohemdanaaDoorTc4
import Derived.Test.YtcfjehohemdanaaDoorPk2
import Derived.Test.YtcfjehohemdanaaDoorTa3
namespace Go.Proofs.YtcfjehohemdanaaDoor
open Go.RowKit Go.Sort

theorem Own.lit {α : Type} {w : World} {T : TypeId} {size : Nat} {enc : α → List Value} (B : Nat) (xs : List α) (hb : B ≤ w.heap.size) (hm : xs.length ≤ 1000000) (he : ∀ x, (enc x).length = size) (cs : Array Value) (hc : cs = (xs.flatMap enc).toArray) :
    Own (w.alloc (.cells cs T)) B T size enc (.slice (some ⟨w.heap.size, 0, none⟩) xs.length xs.length) xs := by
  subst hc
  have h1 : ((xs.flatMap enc).toArray).size = xs.length * size := by
    rw [List.size_toArray]
    clear hm
    induction xs with
    | nil => simp
    | cons a l ih => rw [List.flatMap_cons, List.length_append, he, ih, List.length_cons, Nat.add_mul]; omega
  have := World.ownsRow_lit (e := T) w (xs.flatMap enc).toArray xs.length hb (by unfold maxLen; omega) h1
  simpa [Own] using this
theorem fU_take {s : Sy} {k : Nat} {u : Un} (h : s.un[k]? = some u) : fU s (k + 1) = fU s k ++ flt (eUn s k u) (-1) := by
  obtain ⟨h1, rfl⟩ := List.getElem?_eq_some_iff.1 h
  unfold fU
  rw [List.take_succ_eq_append_getElem h1, List.zipIdx_append, List.flatMap_append]
  simp [List.length_take, Nat.min_eq_left (Nat.le_of_lt h1)]
theorem fA_take {s : Sy} {k : Nat} {a : As} (h : s.ac[k]? = some a) : fA s (k + 1) = fA s k ++ flt (eAc a.a) a.pos := by
  obtain ⟨h1, rfl⟩ := List.getElem?_eq_some_iff.1 h
  unfold fA
  rw [List.take_succ_eq_append_getElem h1, List.flatMap_append]
  simp
theorem fC_take {s : Sy} {k : Nat} {c : Cs} (h : s.cl[k]? = some c) : fC s (k + 1) = fC s k ++ flt (eCl s k c) c.pos := by
  obtain ⟨h1, rfl⟩ := List.getElem?_eq_some_iff.1 h
  unfold fC
  rw [List.take_succ_eq_append_getElem h1, List.zipIdx_append, List.flatMap_append]
  simp [List.length_take, Nat.min_eq_left (Nat.le_of_lt h1)]
theorem flat_le {α : Type} {f : α → List (Int × Int)} (hf : ∀ x, (f x).length ≤ 1) (l : List α) : (l.flatMap f).length ≤ l.length := by
  induction l with
  | nil => simp
  | cons a l ih => have := hf a; simp only [List.flatMap_cons, List.length_append, List.length_cons]; omega
theorem fU_len (s : Sy) (k : Nat) : (fU s k).length ≤ k := by
  have := flat_le (f := fun x : Un × Nat => flt (eUn s x.2 x.1) (-1)) (fun x => flt_len _ _) ((s.un.take k).zipIdx)
  simp only [List.length_zipIdx, List.length_take] at this
  unfold fU; omega
theorem fA_len (s : Sy) (k : Nat) : (fA s k).length ≤ k := by
  have := flat_le (f := fun a : As => flt (eAc a.a) a.pos) (fun x => flt_len _ _) (s.ac.take k)
  simp only [List.length_take] at this
  unfold fA; omega
theorem fC_len (s : Sy) (k : Nat) : (fC s k).length ≤ k := by
  have := flat_le (f := fun x : Cs × Nat => flt (eCl s x.2 x.1) x.1.pos) (fun x => flt_len _ _) ((s.cl.take k).zipIdx)
  simp only [List.length_zipIdx, List.length_take] at this
  unfold fC; omega
set_option maxRecDepth 100000 in
set_option maxHeartbeats 6400000 in
theorem check_any (s : Sy) (m : Sm) (w : World) (hn : Nr w) (ht : Tb w) (hm : Smb w s m) : Calls Tryd.prog 11 #[.agg (syA s m)] w fun e w' => ∃ v, e = .returned v ∧ Below w.heap.size w w' ∧ Own w' w.heap.size 42 2 encF v (chk s) := by
  have hmf : ∀ (fn : Fn) (first cap : Array Value) (w : World), (Instr.makeFunc fn first cap).run Tryd.prog w = .ok (.func fn first cap) w := fun _ _ _ _ => rfl
  have HT := Lib.hid ht
  have HM := Lib.hid hm
  have HW := Lib.hid (fun W (hb : Below w.heap.size w W) => wf_any s m W (hn.below hb) (hm.then_ hb))
  clear hn hm ht
  obtain ⟨b, hb⟩ : ∃ b, wfS s = b := ⟨_, rfl⟩
  rw [hb] at HW
  go_enter Tryd.func11, Tryd.ntmps11
  go_upto_region 1 with (fail)
  refine name_wp ?_
  intro X hX
  have gX : Blk X w.heap.size 34 (syA s m) := by rw [hX]; exact Blk.new _ _ _
  have hbX : Below w.heap.size w X := by rw [hX]; exact wa1 _ _
  have lX := gX.lt
  have GX := Lib.hid gX
  have HBX := Lib.hid hbX
  clear gX hbX hX
  cases b with
  | false =>
    have HC := Lib.hid (chk_no hb)
    clear hb
    go_wp2_with (first | (refine wpList_row_w (by rfl) 34 _ rfl w.heap.size rfl 34 _ GX.out ⟨_, Tryd.underlying34⟩ (by kernel_rfl) ?_; simp only [Act.put, List.setIfInBounds_toArray, List.set_cons_succ, List.set_cons_zero]) | (go_at_call 19; (with_reducible refine (HW.out _ HBX.out).mono ?_); rintro e w1 ⟨rfl, hb1⟩))
    go_ret
    refine ⟨_, rfl, below_alloc (below_then HBX.out hb1) _, ?_⟩
    rw [HC.out]
    exact Own.lit _ [(1, -1)] (Nat.le_trans HBX.out.size hb1.size) (by simp) (fun _ => rfl) _ rfl
  | true =>
    have HC : Hid (chk s = flt (eBeg s) (-1) ++ fU s s.un.length ++ fA s s.ac.length ++ fC s s.cl.length) := by unfold Hid; rw [chk, if_pos hb]
    have HWF : Hid ((∀ u ∈ s.un, ∃ (n : Nat) (y : Un), u.base = (n : Int) ∧ s.un[n]? = some y) ∧ ∀ c ∈ s.cl, fmC s.sz c.c = true) := by
      have h := hb
      simp only [wfS, Bool.and_eq_true, List.all_eq_true, isIx, decide_eq_true_eq] at h
      refine ⟨fun u hu => ?_, fun c hc => (h.2 c hc).1⟩
      obtain ⟨h1, h2⟩ := h.1.1.2 u hu
      obtain ⟨n, hn⟩ := Int.eq_ofNat_of_zero_le h1
      exact ⟨n, _, hn, List.getElem?_eq_getElem (by omega)⟩
    have HS : Hid (s.un.length ≤ 20 ∧ s.ac.length ≤ 60 ∧ s.cl.length ≤ 400) := by
      have h := hb
      simp only [wfS, smallT, Bool.and_eq_true, decide_eq_true_eq] at h
      unfold Hid; omega
    clear hb
    go_upto_region 3 with (first | (refine wpList_row_w (by rfl) 34 _ rfl w.heap.size rfl 34 _ GX.out ⟨_, Tryd.underlying34⟩ (by kernel_rfl) ?_; simp only [Act.put, List.setIfInBounds_toArray, List.set_cons_succ, List.set_cons_zero]) | (go_at_call 19; (with_reducible refine (HW.out _ HBX.out).mono ?_); rintro e w1 ⟨rfl, hb1⟩))
    have hB1 := Lib.hid (below_then HBX.out hb1)
    have hG1 := Lib.hid (GX.out.then_ hb1)
    have hlw : w.heap.size < w1.heap.size := hG1.out.lt
    clear hb1 GX HBX lX
    go_upto_region 5 with (fail)
    refine name_wp ?_
    intro Y hY
    obtain ⟨bF, hbF⟩ : ∃ b, w1.heap.size = b := ⟨_, rfl⟩
    obtain ⟨B0, hB0⟩ : ∃ b, w.heap.size = b := ⟨_, rfl⟩
    rw [hbF, hB0]
    have gF : Fl Y bF [] := ⟨.slice none 0 0, by rw [hY, ← hbF]; exact Blk.new _ _ _, Own.nil _ _ _ _ _⟩
    have gS : Blk Y B0 34 (syA s m) := by rw [hY, ← hB0]; exact hG1.out.alloc _
    have hbY : Below w.heap.size w Y := by rw [hY]; exact below_alloc hB1.out _
    have h0F : B0 < bF := by omega
    have hwF : w.heap.size ≤ bF := by omega
    have hFY : bF < Y.heap.size := gF.choose_spec.1.lt
    have HF := Lib.hid gF
    have GS := Lib.hid gS
    have HBY := Lib.hid hbY
    have HN := Lib.hid (And.intro hwF (And.intro hB0 hFY))
    have HN2 := Lib.hid h0F
    clear gF gS hbY hY hbF hG1 hB1 hlw hwF hFY h0F
    have HFB : Hid (∀ (g : Nat) (t : TypeId) (c : Nat) (W : World), Below Y.heap.size Y W → Blk W g t #[.int .i64 2, .func (.func 22) #[] #[], .int .i64 14, .func (.func 23) #[] #[]] →
        Fnd W bF (flt (eBeg s) (-1)) #[.slice (some ⟨g, 0, none⟩) 2 c, .int .i64 0, .int .i64 (-1), .pointer (some ⟨B0, 0, none⟩), .pointer (some ⟨bF, 0, none⟩)]) := fun g t c W hW hg =>
      find_beg (xs := []) (by simp) (HT.out.below (HBY.out.trans (hW.mono HBY.out.size))) (GS.out.below hW (Nat.lt_trans HN2.out HN.out.2.2)) HN2.out (HF.out.then_ hW) hg
    go_upto_region 6 with (go_at_call 20; with_reducible refine (HFB.out _ _ _ _ (wa1 _ _) (Blk.new _ _ _)).mono ?_; rintro e w2 ⟨rfl, hb2, hF2⟩)
    -- LOOPS
    have HR : Hid (Below bF Y w2 ∧ Fl w2 bF (flt (eBeg s) (-1))) := ⟨((wa1 _ _).mono (Nat.le_of_lt HN.out.2.2)).trans hb2, hF2⟩
    have HKK : Hid (∀ (W V : World) (xs : List (Int × Int)), Below bF Y W → Below W.heap.size W V → Below bF Y V) := fun W V xs h1 h2 => h1.trans (h2.mono (Nat.le_trans (Nat.le_of_lt HN.out.2.2) h1.size))
    clear hb2 hF2 HFB
    have gB : Blk w2 B0 34 (syA s m) := GS.out.below HR.out.1 HN2.out
    have c15 : w2.cell? ⟨B0, 15, none⟩ = some (.slice m.u s.un.length m.uc) := gB.cell 15
    have lB := gB.lt
    clear gB
    go_upto_region 7 with (fail)
    clear c15 lB
    go_loopw [24] (fun x WR => ∃ k : Nat, k ≤ s.un.length ∧ x = .int .i64 k ∧ Hid (Below bF Y WR ∧ Fl WR bF (flt (eBeg s) (-1) ++ fU s k))) (fun x _ => 2000000 - (intOf x).toNat)
    case atStart => exact ⟨0, by omega, rfl, by have h := HR.out; simpa [Hid, fU] using h⟩
    case round =>
      clear HR
      obtain ⟨k, hk, rfl, HR⟩ := hrel
      have lF : bF < wr.heap.size := Nat.lt_of_lt_of_le HN.out.2.2 HR.out.1.size
      have hll : s.un.length ≤ 1000000 := HM.out.lu
      by_cases hlt : k < s.un.length
      · have hxl : Hid ((flt (eBeg s) (-1) ++ fU s k).length ≤ 100000) := by
            have h1 := flt_len (eBeg s) (-1); have h2 := fU_len s s.un.length; have h3 := fA_len s s.ac.length; have h4 := fU_len s k; have h5 := HS.out
            unfold Hid; simp only [List.length_append]; omega
        have hb9 : Below w.heap.size w wr := HBY.out.trans (HR.out.1.mono HN.out.1)
        have HMR := Lib.hid (HM.out.then_ hb9)
        have GB := Lib.hid (GS.out.below HR.out.1 HN2.out)
        obtain ⟨x, hx⟩ : ∃ x, s.un[k]? = some x := ⟨_, List.getElem?_eq_getElem hlt⟩
        obtain ⟨n, y, hn, hy⟩ := HWF.out.1 x (List.mem_of_getElem? hx)
        have HU : Hid (∀ (g : Nat) (t : TypeId) (c : Nat) (W : World), Below wr.heap.size wr W → Blk W g t #[.int .i64 2, .func (.func 24) #[] #[], .int .i64 11, .func (.func 25) #[] #[]] →
            Fnd W bF (flt (eBeg s) (-1) ++ fU s (k + 1)) #[.slice (some ⟨g, 0, none⟩) 2 c, .int .i64 k, .int .i64 (-1), .pointer (some ⟨B0, 0, none⟩), .pointer (some ⟨bF, 0, none⟩)]) := fun g t c W hW hg => by
          rw [fU_take hx, ← List.append_assoc]
          exact find_un hxl.out (HMR.out.then_ hW) hx hn hy (GB.out.then_ hW) HN2.out (HR.out.2.then_ hW) hg
        clear hb9 hx hy hn hxl
        go_wp2_with (go_at_call 20; with_reducible refine (HU.out _ _ _ _ (wa1 _ _) (Blk.new _ _ _)).mono ?_; rintro e w3 ⟨rfl, hb3, hF3⟩)
        go_roundw
        case rel => exact ⟨k + 1, by omega, by go_num, (HKK.out _ _ [] HR.out.1 (wa1 _ _)).trans hb3, hF3⟩
        case measure => simp [intOf]; omega
      · obtain rfl : k = s.un.length := by omega
        clear hlt hk
        have gB : Blk wr B0 34 (syA s m) := GS.out.below HR.out.1 HN2.out
        have c16 : wr.cell? ⟨B0, 16, none⟩ = some (.slice m.a s.ac.length m.ac) := gB.cell 16
        have lB := gB.lt
        clear gB
        go_upto_region 12 with (fail)
        clear c16 lB
        go_loopw [37] (fun x WR => ∃ k : Nat, k ≤ s.ac.length ∧ x = .int .i64 k ∧ Hid (Below bF Y WR ∧ Fl WR bF (flt (eBeg s) (-1) ++ fU s s.un.length ++ fA s k))) (fun x _ => 2000000 - (intOf x).toNat)
        case atStart => exact ⟨0, by omega, rfl, by have h := HR.out; simpa [Hid, fA] using h⟩
        case round =>
          clear HR
          obtain ⟨k, hk, rfl, HR⟩ := hrel
          have lF : bF < wr.heap.size := Nat.lt_of_lt_of_le HN.out.2.2 HR.out.1.size
          have hll : s.ac.length ≤ 1000000 := HM.out.la
          by_cases hlt : k < s.ac.length
          · have hxl : Hid ((flt (eBeg s) (-1) ++ fU s s.un.length ++ fA s k).length ≤ 100000) := by
                have h1 := flt_len (eBeg s) (-1); have h2 := fU_len s s.un.length; have h3 := fA_len s s.ac.length; have h4 := fA_len s k; have h5 := HS.out
                unfold Hid; simp only [List.length_append]; omega
            have hb9 : Below w.heap.size w wr := HBY.out.trans (HR.out.1.mono HN.out.1)
            have HMR := Lib.hid (HM.out.then_ hb9)
            have GB := Lib.hid (GS.out.below HR.out.1 HN2.out)
            obtain ⟨x, hx⟩ : ∃ x, s.ac[k]? = some x := ⟨_, List.getElem?_eq_getElem hlt⟩
            obtain ⟨b1, o1, ec, hb1, hc1⟩ := segAs HMR.out.y.a hx
            have hrg : wr.rangeAt b1 (o1 + k * 9) (encAs x) := fun j v hv => hc1 j v hv
            have HU : Hid (∀ (g : Nat) (t : TypeId) (c : Nat) (W : World), Below wr.heap.size wr W → Blk W g t #[.int .i64 2, .func (.func 26) #[] #[], .int .i64 10, .func (.func 27) #[] #[]] →
                Fnd W bF (flt (eBeg s) (-1) ++ fU s s.un.length ++ fA s (k + 1)) #[.slice (some ⟨g, 0, none⟩) 2 c, .int .i64 k, .int .i64 x.pos, .pointer (some ⟨B0, 0, none⟩), .pointer (some ⟨bF, 0, none⟩)]) := fun g t c W hW hg => by
              rw [fA_take hx, ← List.append_assoc]
              exact find_ac hxl.out (HMR.out.then_ hW) hx (GB.out.then_ hW) HN2.out (HR.out.2.then_ hW) hg
            clear hb9 hx hxl hc1
            rw [ec]
            go_upto_region 14 with ((refine wpList_elem4 60 el9 _ _ _ _ _ rfl rfl rfl rfl rfl rfl rfl rfl rfl rfl rfl rfl b1 _ rfl [.string x.nm, .int .i64 x.pos, .int .i64 x.a.kind, .int .i64 x.a.role, .int .i64 x.a.give, .int .i64 x.a.to_, .int .i64 x.a.unit, .int .i64 x.a.lot.1, .int .i64 x.a.lot.2] rfl hrg (by simp [Value.oneCell']) (by decide) (by decide) (by decide) (by simp) (by simp) (.int .i64 k) rfl ?_; simp only [Act.put, List.setIfInBounds_toArray, List.set_cons_succ, List.set_cons_zero]))
            refine name_wp ?_
            intro Z hZ
            have hbZ : Below wr.heap.size wr Z := by rw [hZ]; exact wa1 _ _
            have gA : Blk Z wr.heap.size 60 (encAs x).toArray := by rw [hZ]; exact Blk.new _ _ _
            have x1 : Z.cell? ⟨wr.heap.size, 1, none⟩ = some (.int .i64 x.pos) := gA.cell 1
            have lA := gA.lt
            have HZ := Lib.hid hbZ
            clear hZ hbZ gA hrg
            go_wp2_with (go_at_call 20; (with_reducible refine (HU.out _ _ _ _ (below_alloc HZ.out _) (Blk.new _ _ _)).mono ?_); rintro e w3 ⟨rfl, hb3, hF3⟩)
            go_roundw
            case rel => exact ⟨k + 1, by omega, by go_num, (HKK.out _ _ [] HR.out.1 (below_alloc HZ.out _)).trans hb3, hF3⟩
            case measure => simp [intOf]; omega
          · obtain rfl : k = s.ac.length := by omega
            clear hlt hk
            have gB : Blk wr B0 34 (syA s m) := GS.out.below HR.out.1 HN2.out
            have c17 : wr.cell? ⟨B0, 17, none⟩ = some (.slice m.c s.cl.length m.cc) := gB.cell 17
            have lB := gB.lt
            clear gB
            go_upto_region 17 with (fail)
            clear c17 lB
            go_loopw [54] (fun x WR => ∃ k : Nat, k ≤ s.cl.length ∧ x = .int .i64 k ∧ Hid (Below bF Y WR ∧ Fl WR bF (flt (eBeg s) (-1) ++ fU s s.un.length ++ fA s s.ac.length ++ fC s k))) (fun x _ => 2000000 - (intOf x).toNat)
            case atStart => exact ⟨0, by omega, rfl, by have h := HR.out; simpa [Hid, fC] using h⟩
            case round =>
              clear HR
              obtain ⟨k, hk, rfl, HR⟩ := hrel
              have lF : bF < wr.heap.size := Nat.lt_of_lt_of_le HN.out.2.2 HR.out.1.size
              have hll : s.cl.length ≤ 1000000 := HM.out.lc
              by_cases hlt : k < s.cl.length
              · have hxl : Hid ((flt (eBeg s) (-1) ++ fU s s.un.length ++ fA s s.ac.length ++ fC s k).length ≤ 100000) := by
                    have h1 := flt_len (eBeg s) (-1); have h2 := fU_len s s.un.length; have h3 := fA_len s s.ac.length; have h4 := fC_len s k; have h5 := HS.out
                    unfold Hid; simp only [List.length_append]; omega
                have hb9 : Below w.heap.size w wr := HBY.out.trans (HR.out.1.mono HN.out.1)
                have HMR := Lib.hid (HM.out.then_ hb9)
                have GB := Lib.hid (GS.out.below HR.out.1 HN2.out)
                obtain ⟨x, hx⟩ : ∃ x, m.cs[k]? = some x := ⟨_, List.getElem?_eq_getElem (by rw [HMR.out.len]; exact hlt)⟩
                obtain ⟨hcx, _⟩ := HMR.out.cl hx
                obtain ⟨b1, o1, ec, hb1, hc1⟩ := segCl HMR.out.y.c hx
                have hrg : wr.rangeAt b1 (o1 + k * 24) (encCl x) := fun j v hv => hc1 j v hv
                have hfm := HWF.out.2 x.c (List.mem_of_getElem? hcx)
                have HU : Hid (∀ (g : Nat) (t : TypeId) (c : Nat) (W : World), Below wr.heap.size wr W → Blk W g t #[.int .i64 2, .func (.func 28) #[] #[], .int .i64 3, .func (.func 29) #[] #[], .int .i64 12, .func (.func 30) #[] #[], .int .i64 10, .func (.func 31) #[] #[], .int .i64 11, .func (.func 32) #[] #[]] →
                    Fnd W bF (flt (eBeg s) (-1) ++ fU s s.un.length ++ fA s s.ac.length ++ fC s (k + 1)) #[.slice (some ⟨g, 0, none⟩) 5 c, .int .i64 k, .int .i64 x.c.pos, .pointer (some ⟨B0, 0, none⟩), .pointer (some ⟨bF, 0, none⟩)]) := fun g t c W hW hg => by
                  rw [fC_take hcx, ← List.append_assoc]
                  exact find_cl hxl.out (HMR.out.then_ hW) hx hfm (GB.out.then_ hW) HN2.out (HR.out.2.then_ hW) hg
                clear hb9 hx hxl hc1 hcx hfm
                rw [ec]
                go_upto_region 19 with ((refine wpList_elem4 51 el24 _ _ _ _ _ rfl rfl rfl rfl rfl rfl rfl rfl rfl rfl rfl rfl b1 _ rfl [.string x.c.nm, .int .i64 x.c.pos, .int .i64 x.c.wi.d, .bool x.c.wi.b, .string x.c.wi.nm, .int .i64 x.c.gr.d, .bool x.c.gr.b, .string x.c.gr.nm, .int .i64 x.c.c.kind, .int .i64 x.c.c.role, .int .i64 x.c.c.act, .int .i64 x.c.c.need, .slice x.A x.c.c.start.length x.cap, .int .i64 x.c.c.aft, .int .i64 x.c.c.grace, .bool x.c.c.bus, .bool x.c.c.fin, .int .i64 x.c.c.pause, .int .i64 x.c.c.resume, .int .i64 x.c.c.v.1, .int .i64 x.c.c.v.2, .int .i64 x.c.c.unit, .int .i64 x.c.c.to_, .bool x.c.c.waived] rfl hrg (by simp [Value.oneCell']) (by decide) (by decide) (by decide) (by simp) (by simp) (.int .i64 k) rfl ?_; simp only [Act.put, List.setIfInBounds_toArray, List.set_cons_succ, List.set_cons_zero]))
                refine name_wp ?_
                intro Z hZ
                have hbZ : Below wr.heap.size wr Z := by rw [hZ]; exact wa1 _ _
                have gA : Blk Z wr.heap.size 51 (encCl x).toArray := by rw [hZ]; exact Blk.new _ _ _
                have x1 : Z.cell? ⟨wr.heap.size, 1, none⟩ = some (.int .i64 x.c.pos) := gA.cell 1
                have lA := gA.lt
                have HZ := Lib.hid hbZ
                clear hZ hbZ gA hrg
                go_wp2_with (go_at_call 20; (with_reducible refine (HU.out _ _ _ _ (below_alloc HZ.out _) (Blk.new _ _ _)).mono ?_); rintro e w3 ⟨rfl, hb3, hF3⟩)
                go_roundw
                case rel => exact ⟨k + 1, by omega, by go_num, (HKK.out _ _ [] HR.out.1 (below_alloc HZ.out _)).trans hb3, hF3⟩
                case measure => simp [intOf]; omega
              · obtain rfl : k = s.cl.length := by omega
                obtain ⟨v, gv, hv⟩ := HR.out.2
                have cF : wr.cell? ⟨bF, 0, none⟩ = some v := gv.cell 0
                have HV := Lib.hid hv
                clear gv hv
                go_wp2
                go_ret
                refine ⟨_, rfl, HBY.out.trans (HR.out.1.mono HN.out.1), ?_⟩
                rw [HC.out]
                exact HV.out.more (Nat.le_succ_of_le HN.out.1)
end Go.Proofs.YtcfjehohemdanaaDoor
