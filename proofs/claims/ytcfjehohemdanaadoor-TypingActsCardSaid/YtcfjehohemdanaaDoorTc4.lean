/- The walk of wellFormed. -/
import Derived.Test.YtcfjehohemdanaaDoorTc2
import Derived.Test.YtcfjehohemdanaaDoorTb4
namespace Go.Proofs.YtcfjehohemdanaaDoor
open Go.RowKit Go.Sort

/-- Symbols in memory, with all that the walk asks of their sizes and numbers. -/
structure Smb (w : World) (s : Sy) (m : Sm) : Prop where
  y : Sym w s m
  cu : s.un.length ≤ m.uc
  lp : s.par.length ≤ 1000000
  lr : s.ro.length ≤ 1000000
  lu : s.un.length ≤ 1000000
  la : s.ac.length ≤ 1000000
  lc : s.cl.length ≤ 1000000
  lh : s.hol.length ≤ 1000000
  lx : ∀ c ∈ s.cl, c.c.start.length ≤ 1000000
  bu : ∀ u ∈ s.un, b64 u.f.1 ∧ b64 u.f.2
  ba : ∀ a ∈ s.ac, b64 a.a.lot.1 ∧ b64 a.a.lot.2
  bc : ∀ c ∈ s.cl, b64 c.c.v.1 ∧ b64 c.c.v.2
theorem Smb.then_ {w w' : World} {s : Sy} {m : Sm} (h : Smb w s m) (hb : Below w.heap.size w w') : Smb w' s m := { h with y := h.y.then_ hb }
theorem Smb.len {w : World} {s : Sy} {m : Sm} (h : Smb w s m) : m.cs.length = s.cl.length := by rw [← h.y.e]; simp
theorem Smb.cl {w : World} {s : Sy} {m : Sm} (h : Smb w s m) {k : Nat} {x : Cm} (hx : m.cs[k]? = some x) : s.cl[k]? = some x.c ∧ Seg w w.heap.size 2 encCo x.A x.c.c.start ∧ x.c.c.start.length ≤ 1000000 ∧ b64 x.c.c.v.1 ∧ b64 x.c.c.v.2 := by
  have h1 : s.cl[k]? = some x.c := by rw [← h.y.e, List.getElem?_map, hx]; rfl
  have h2 := List.mem_of_getElem? h1
  exact ⟨h1, h.y.t x (List.mem_of_getElem? hx), h.lx _ h2, h.bc _ h2⟩
theorem segRo {w : World} {B : Nat} {A : Option Addr} {l : List Ro} {k : Nat} {x : Ro} (h : Seg w B 2 encRo A l) (hx : l[k]? = some x) :
    ∃ b off, A = some ⟨b, off, none⟩ ∧ b < B ∧ w.rangeAt b (off + k * 2) (encRo x) := h k x hx
theorem el2 : ElT Tryd.prog 56 2 := ⟨⟨_, Tryd.underlying56⟩, by kernel_rfl, ⟨.agg #[.string ⟨#[]⟩, .int .i64 0], rfl, fun w => by kernel_rfl⟩⟩
theorem el5 : ElT Tryd.prog 82 5 := ⟨⟨_, Tryd.underlying82⟩, by kernel_rfl, ⟨.agg #[.string ⟨#[]⟩, .int .i64 0, .int .i64 0, .int .i64 0, .int .i64 0], rfl, fun w => by kernel_rfl⟩⟩
theorem el9 : ElT Tryd.prog 60 9 := ⟨⟨_, Tryd.underlying60⟩, by kernel_rfl, ⟨.agg #[.string ⟨#[]⟩, .int .i64 0, .int .i64 0, .int .i64 0, .int .i64 0, .int .i64 0, .int .i64 0, .int .i64 0, .int .i64 0], rfl, fun w => by kernel_rfl⟩⟩
theorem all_take {α : Type} {p : α → Bool} {l : List α} {k : Nat} {x : α} (hx : l[k]? = some x) (h : (l.take k).all p = true) : (l.take (k + 1)).all p = p x := by
  obtain ⟨h1, rfl⟩ := List.getElem?_eq_some_iff.1 hx
  rw [List.take_succ_eq_append_getElem h1, List.all_append, h]; simp
theorem all_no {α : Type} {p : α → Bool} {l : List α} {k : Nat} {x : α} (hx : l[k]? = some x) (h : p x = false) : l.all p = false := by
  rw [List.all_eq_false]
  exact ⟨x, List.mem_of_getElem? hx, by simp [h]⟩
theorem all_end {α : Type} {p : α → Bool} {l : List α} {k : Nat} (hk : ¬ k < l.length) (h : (l.take k).all p = true) : l.all p = true := by rwa [List.take_of_length_le (by omega)] at h
set_option maxRecDepth 100000 in
set_option maxHeartbeats 6400000 in
theorem wf_any (s : Sy) (m : Sm) (w : World) (hn : Nr w) (hm : Smb w s m) : Calls Tryd.prog 19 #[.agg (syA s m)] w fun e w' => e = .returned (.bool (wfS s)) ∧ Below w.heap.size w w' := by
  have HN := Lib.hid hn
  have HM := Lib.hid hm
  clear hn hm
  have HW : Hid (wfS s = (smallT s && incr s.hol (-1) && s.ro.all (fun r => isIx r.party s.par.length) && s.un.all (fun u => isIx u.base s.un.length) && s.ac.all (fun a => fmA s.sz a.a) && s.cl.all (fun c => fmC s.sz c.c && fmS c))) := rfl
  have HI := Lib.hid (fun W (hb : Below w.heap.size w W) => incr_any m.h s.hol m.hc W HM.out.lh ((HM.out.then_ hb).y.h))
  go_enter Tryd.func19, Tryd.ntmps19
  go_upto_region 1 with (fail)
  refine name_wp ?_
  intro X hX
  have gX : Blk X w.heap.size 34 (syA s m) := by rw [hX]; exact Blk.new _ _ _
  have hbX : Below w.heap.size w X := by rw [hX]; exact wa1 _ _
  obtain ⟨B0, hB0⟩ : ∃ B0, w.heap.size = B0 := ⟨_, rfl⟩
  have HB0 := Lib.hid hB0
  rw [hB0] at gX
  rw [hB0]
  have c12 : X.cell? ⟨B0, 12, none⟩ = some (.slice m.h s.hol.length m.hc) := gX.cell 12
  have l0 := gX.lt
  have HBX := Lib.hid hbX
  have GX := Lib.hid gX
  clear hX hbX hB0
  obtain ⟨z1, hz1⟩ : ∃ z, smallT s = z := ⟨_, rfl⟩
  obtain ⟨z2, hz2⟩ : ∃ z, incr s.hol (-1) = z := ⟨_, rfl⟩
  have HS := Lib.hid (fun W => smallT_any s m W)
  rw [hz1] at HS
  rw [hz2] at HI
  unfold Hid at HW
  rw [hz1, hz2] at HW
  have HWW := Lib.hid HW
  clear HW hz1 hz2
  cases z1 with
  | false =>
    have hf : Hid (wfS s = false) := by unfold Hid; rw [HWW.out]; simp
    go_wp2_with (first | (refine wpList_row_w (by rfl) 34 _ rfl B0 rfl 34 _ (by with_reducible assumption) ⟨_, Tryd.underlying34⟩ (by kernel_rfl) ?_; simp only [Act.put, List.setIfInBounds_toArray, List.set_cons_succ, List.set_cons_zero]) | (go_at_call 36; (with_reducible refine (HS.out _).mono ?_); rintro e w1 ⟨rfl, hb1⟩))
    go_ret
    exact ⟨ret_bool hf.out.symm, below_then HBX.out hb1⟩
  | true =>
  cases z2 with
  | false =>
    have hf : Hid (wfS s = false) := by unfold Hid; rw [HWW.out]; simp
    go_wp2_with (first | (refine wpList_row_w (by rfl) 34 _ rfl B0 rfl 34 _ (by with_reducible assumption) ⟨_, Tryd.underlying34⟩ (by kernel_rfl) ?_; simp only [Act.put, List.setIfInBounds_toArray, List.set_cons_succ, List.set_cons_zero]) | (go_at_call 36; (with_reducible refine (HS.out _).mono ?_); rintro e w1 ⟨rfl, hb1⟩; have c12' := (hb1.cell (p := ⟨B0, 12, none⟩) l0).trans c12; have l0' := Nat.lt_of_lt_of_le l0 hb1.size; have hI := HI.out _ (below_then HBX.out hb1)) | (go_at_call 37; (with_reducible refine hI.mono ?_); rintro e w2 ⟨rfl, hb2⟩))
    go_ret
    exact ⟨ret_bool hf.out.symm, below_then (below_then HBX.out (by assumption)) (by assumption)⟩
  | true =>
    go_cut [11, 12, 13, 14, 15, 16, 17, 18, 19, 20] from 11 to 20 (fun _ _ _ _ _ _ _ _ _ v W => v = .bool false ∧ Below X.heap.size X W)
    case first =>
      go_wp2_with (first | (refine wpList_row_w (by rfl) 34 _ rfl B0 rfl 34 _ (by with_reducible assumption) ⟨_, Tryd.underlying34⟩ (by kernel_rfl) ?_; simp only [Act.put, List.setIfInBounds_toArray, List.set_cons_succ, List.set_cons_zero]) | (go_at_call 36; (with_reducible refine (HS.out _).mono ?_); rintro e w1 ⟨rfl, hb1⟩; have c12' := (hb1.cell (p := ⟨B0, 12, none⟩) l0).trans c12; have l0' := Nat.lt_of_lt_of_le l0 hb1.size; have hI := HI.out _ (below_then HBX.out hb1)) | (go_at_call 37; (with_reducible refine hI.mono ?_); rintro e w2 ⟨rfl, hb2⟩))
      go_meet
      case rel => exact ⟨rfl, below_then (by assumption) (by assumption)⟩
    case rest =>
      obtain ⟨hv, hbw⟩ := hcut
      subst hv
      have gY := GX.out.then_ hbw
      have hbY := below_then HBX.out hbw
      have hmY := HM.out.then_ hbY
      have HBY := Lib.hid hbY
      have HMY := Lib.hid hmY
      have NY := Lib.hid (HN.out.below hbY)
      have c14 : wc.cell? ⟨B0, 14, none⟩ = some (.slice m.r s.ro.length m.rc) := gY.cell 14
      have lY := gY.lt
      have GY := Lib.hid gY
      have HW2 : Hid (wfS s = (s.ro.all (fun r => isIx r.party s.par.length) && s.un.all (fun u => isIx u.base s.un.length) && s.ac.all (fun a => fmA s.sz a.a) && s.cl.all (fun c => fmC s.sz c.c && fmS c))) := by unfold Hid; rw [HWW.out]; simp
      have lr := HM.out.lr
      have lu := HM.out.lu
      have la := HM.out.la
      have lc := HM.out.lc
      clear gY hbw hbY hmY HWW HS HI c12 l0 GX HBX HM HN gX
      go_upto_region 4 with (fail)
      go_loopw [24] (fun y WR => ∃ k : Nat, k ≤ s.ro.length ∧ y = .int .i64 k ∧ Hid ((s.ro.take k).all (fun r => isIx r.party s.par.length) = true) ∧ Below wc.heap.size wc WR) (fun y _ => 2000000 - (intOf y).toNat)
      case atStart => exact ⟨0, by omega, rfl, rfl, Below.refl _ _⟩
      case round =>
        skip
        obtain ⟨k, hk, rfl, hN, hbr⟩ := hrel
        have HBR := Lib.hid hbr
        have gR := GY.out.then_ hbr
        have hmR := HMY.out.then_ hbr
        have lR := gR.lt
        by_cases hlt : k < s.ro.length
        · obtain ⟨x, hx⟩ : ∃ x, s.ro[k]? = some x := ⟨_, List.getElem?_eq_getElem hlt⟩
          obtain ⟨b1, o1, ec, hb1, hc1⟩ := segRo hmR.y.r hx
          have hrg : wr.rangeAt b1 (o1 + k * 2) (encRo x) := fun j v hv => hc1 j v hv
          have htk := Lib.hid (all_take (p := fun r => isIx r.party s.par.length) hx hN.out)
          have hno := Lib.hid (all_no (p := fun r => isIx r.party s.par.length) hx)
          rw [ec]
          have c13 : wr.cell? ⟨B0, 13, none⟩ = some (.slice m.p s.par.length m.pc) := gR.cell 13
          obtain ⟨z, hz⟩ : ∃ z, isIx x.party s.par.length = z := ⟨_, rfl⟩
          have HZ := Lib.hid hz
          have hix := fun W => isIx_any x.party s.par.length W
          rw [hz] at hix
          have HIX := Lib.hid hix
          clear hix hz hc1 hbr hmR hx gR
          cases z with
          | true =>
            go_wp2_with (first | (refine wpList_elem 56 el2 _ _ _ rfl rfl rfl rfl rfl rfl rfl rfl rfl b1 _ rfl [.string x.nm, .int .i64 x.party] rfl hrg (by simp [Value.oneCell']) (by decide) (by simp) (by simp) ?_; simp only [Act.put, List.setIfInBounds_toArray, List.set_cons_succ, List.set_cons_zero]) | (go_at_call 38; (with_reducible refine (HIX.out _).mono ?_); rintro e w1 ⟨rfl, rfl⟩))
            go_roundw
            case rel => exact ⟨k + 1, by omega, by go_num, by unfold Hid; rw [htk.out]; exact HZ.out, below_alloc HBR.out _⟩
            case measure => simp [intOf]; omega
          | false =>
            have hf : Hid (wfS s = false) := by unfold Hid; rw [HW2.out, hno.out HZ.out]; simp
            go_wp2_with (first | (refine wpList_elem 56 el2 _ _ _ rfl rfl rfl rfl rfl rfl rfl rfl rfl b1 _ rfl [.string x.nm, .int .i64 x.party] rfl hrg (by simp [Value.oneCell']) (by decide) (by simp) (by simp) ?_; simp only [Act.put, List.setIfInBounds_toArray, List.set_cons_succ, List.set_cons_zero]) | (go_at_call 38; (with_reducible refine (HIX.out _).mono ?_); rintro e w1 ⟨rfl, rfl⟩))
            go_ret
            exact ⟨ret_bool hf.out.symm, HB0.out ▸ below_alloc (below_then HBY.out HBR.out) _⟩
        · have hall := all_end hlt hN.out
          have HW3 : Hid (wfS s = (s.un.all (fun u => isIx u.base s.un.length) && s.ac.all (fun a => fmA s.sz a.a) && s.cl.all (fun c => fmC s.sz c.c && fmS c))) := by unfold Hid; rw [HW2.out, hall]; simp
          have c15 : wr.cell? ⟨B0, 15, none⟩ = some (.slice m.u s.un.length m.uc) := gR.cell 15
          clear HW2 hall hN hbr hmR gR
          go_upto_region 10 with (fail)
          clear c15 lR hlt hk
          go_loopw [39] (fun y WR => ∃ k : Nat, k ≤ s.un.length ∧ y = .int .i64 k ∧ Hid ((s.un.take k).all (fun u => isIx u.base s.un.length) = true) ∧ Below wc.heap.size wc WR) (fun y _ => 2000000 - (intOf y).toNat)
          case atStart => exact ⟨0, by omega, rfl, rfl, HBR.out⟩
          case round =>
            clear HBR
            obtain ⟨k, hk, rfl, hN, hbr⟩ := hrel
            have HBR := Lib.hid hbr
            have gR := GY.out.then_ hbr
            have hmR := HMY.out.then_ hbr
            have lR := gR.lt
            by_cases hlt : k < s.un.length
            · obtain ⟨x, hx⟩ : ∃ x, s.un[k]? = some x := ⟨_, List.getElem?_eq_getElem hlt⟩
              obtain ⟨b1, o1, ec, hb1, hc1⟩ := segUn hmR.y.u hx
              have hrg : wr.rangeAt b1 (o1 + k * 5) (encUn x) := fun j v hv => hc1 j v hv
              have htk := Lib.hid (all_take (p := fun u => isIx u.base s.un.length) hx hN.out)
              have hno := Lib.hid (all_no (p := fun u => isIx u.base s.un.length) hx)
              rw [ec]
              have c15 : wr.cell? ⟨B0, 15, none⟩ = some (.slice m.u s.un.length m.uc) := gR.cell 15
              rw [ec] at c15
              obtain ⟨z, hz⟩ : ∃ z, isIx x.base s.un.length = z := ⟨_, rfl⟩
              have HZ := Lib.hid hz
              have hix := fun W => isIx_any x.base s.un.length W
              rw [hz] at hix
              have HIX := Lib.hid hix
              clear hix hz hc1 hbr hmR hx gR
              cases z with
              | true =>
                go_wp2_with (first | (refine wpList_elem 82 el5 _ _ _ rfl rfl rfl rfl rfl rfl rfl rfl rfl b1 _ rfl [.string x.nm, .int .i64 x.kind, .int .i64 x.base, .int .i64 x.f.1, .int .i64 x.f.2] rfl hrg (by simp [Value.oneCell']) (by decide) (by simp) (by simp) ?_; simp only [Act.put, List.setIfInBounds_toArray, List.set_cons_succ, List.set_cons_zero]) | (go_at_call 38; (with_reducible refine (HIX.out _).mono ?_); rintro e w1 ⟨rfl, rfl⟩))
                go_roundw
                case rel => exact ⟨k + 1, by omega, by go_num, by unfold Hid; rw [htk.out]; exact HZ.out, below_alloc HBR.out _⟩
                case measure => simp [intOf]; omega
              | false =>
                have hf : Hid (wfS s = false) := by unfold Hid; rw [HW3.out, hno.out HZ.out]; simp
                go_wp2_with (first | (refine wpList_elem 82 el5 _ _ _ rfl rfl rfl rfl rfl rfl rfl rfl rfl b1 _ rfl [.string x.nm, .int .i64 x.kind, .int .i64 x.base, .int .i64 x.f.1, .int .i64 x.f.2] rfl hrg (by simp [Value.oneCell']) (by decide) (by simp) (by simp) ?_; simp only [Act.put, List.setIfInBounds_toArray, List.set_cons_succ, List.set_cons_zero]) | (go_at_call 38; (with_reducible refine (HIX.out _).mono ?_); rintro e w1 ⟨rfl, rfl⟩))
                go_ret
                exact ⟨ret_bool hf.out.symm, HB0.out ▸ below_alloc (below_then HBY.out HBR.out) _⟩
            · have hall := all_end hlt hN.out
              have HW4 : Hid (wfS s = (s.ac.all (fun a => fmA s.sz a.a) && s.cl.all (fun c => fmC s.sz c.c && fmS c))) := by unfold Hid; rw [HW3.out, hall]; simp
              have c16 : wr.cell? ⟨B0, 16, none⟩ = some (.slice m.a s.ac.length m.ac) := gR.cell 16
              clear HW3 hall hN hbr hmR gR
              go_upto_region 16 with (fail)
              clear c16 lR hlt hk
              go_loopw [54] (fun y WR => ∃ k : Nat, k ≤ s.ac.length ∧ y = .int .i64 k ∧ Hid ((s.ac.take k).all (fun a => fmA s.sz a.a) = true) ∧ Below wc.heap.size wc WR) (fun y _ => 2000000 - (intOf y).toNat)
              case atStart => exact ⟨0, by omega, rfl, rfl, HBR.out⟩
              case round =>
                clear HBR
                obtain ⟨k, hk, rfl, hN, hbr⟩ := hrel
                have HBR := Lib.hid hbr
                have gR := GY.out.then_ hbr
                have hmR := HMY.out.then_ hbr
                have lR := gR.lt
                by_cases hlt : k < s.ac.length
                · obtain ⟨x, hx⟩ : ∃ x, s.ac[k]? = some x := ⟨_, List.getElem?_eq_getElem hlt⟩
                  obtain ⟨b1, o1, ec, hb1, hc1⟩ := segAs hmR.y.a hx
                  have hrg : wr.rangeAt b1 (o1 + k * 9) (encAs x) := fun j v hv => hc1 j v hv
                  have htk := Lib.hid (all_take (p := fun a => fmA s.sz a.a) hx hN.out)
                  have hno := Lib.hid (all_no (p := fun a => fmA s.sz a.a) hx)
                  rw [ec]
                  go_upto_region 18 with ((refine wpList_elem 60 el9 _ _ _ rfl rfl rfl rfl rfl rfl rfl rfl rfl b1 _ rfl [.string x.nm, .int .i64 x.pos, .int .i64 x.a.kind, .int .i64 x.a.role, .int .i64 x.a.give, .int .i64 x.a.to_, .int .i64 x.a.unit, .int .i64 x.a.lot.1, .int .i64 x.a.lot.2] rfl hrg (by simp [Value.oneCell']) (by decide) (by simp) (by simp) ?_; simp only [Act.put, List.setIfInBounds_toArray, List.set_cons_succ, List.set_cons_zero]))
                  refine name_wp ?_
                  intro Y hY
                  have hbY2 : Below wr.heap.size wr Y := by rw [hY]; exact wa1 _ _
                  have gA : Blk Y wr.heap.size 60 #[.string x.nm, .int .i64 x.pos, .int .i64 x.a.kind, .int .i64 x.a.role, .int .i64 x.a.give, .int .i64 x.a.to_, .int .i64 x.a.unit, .int .i64 x.a.lot.1, .int .i64 x.a.lot.2] := by rw [hY]; exact Blk.new _ _ _
                  have gS := gR.then_ hbY2
                  have hra : Y.rangeAt wr.heap.size 2 [.int .i64 x.a.kind, .int .i64 x.a.role, .int .i64 x.a.give, .int .i64 x.a.to_, .int .i64 x.a.unit, .int .i64 x.a.lot.1, .int .i64 x.a.lot.2] := fun j v hv => (gA.cell (2 + j)).trans (by rw [← hv]; match j with | 0 | 1 | 2 | 3 | 4 | 5 | 6 => rfl | (n + 7) => rw [List.getElem?_eq_none (by simp), Array.getElem?_eq_none (by simp; omega)])
                  have lA := gA.lt
                  have lS := gS.lt
                  obtain ⟨z, hz⟩ : ∃ z, fmA s.sz x.a = z := ⟨_, rfl⟩
                  have HZ := Lib.hid hz
                  have hfm := fmA_any s m x.a Y (NY.out.below (below_then hbr hbY2))
                  rw [hz] at hfm
                  have HB2 := Lib.hid (below_then hbr hbY2)
                  obtain ⟨B2, hB2⟩ : ∃ B2, wr.heap.size = B2 := ⟨_, rfl⟩
                  have HB2e := Lib.hid hB2
                  rw [hB2] at hra lA
                  rw [hB2]
                  clear hz hc1 hbr hmR hx hY hbY2 gA hrg hB2 gR lR
                  cases z with
                  | true =>
                    go_wp2_with (first | (refine wpList_row_w (by rfl) 34 _ rfl B0 rfl 34 _ (by with_reducible assumption) ⟨_, Tryd.underlying34⟩ (by kernel_rfl) ?_; simp only [Act.put, List.setIfInBounds_toArray, List.set_cons_succ, List.set_cons_zero]) | (refine wpList_load_mid rfl 58 _ rfl B2 _ rfl [.int .i64 x.a.kind, .int .i64 x.a.role, .int .i64 x.a.give, .int .i64 x.a.to_, .int .i64 x.a.unit, .int .i64 x.a.lot.1, .int .i64 x.a.lot.2] _ hra Tryd.underlying58 rfl (by kernel_rfl) ?_; simp only [Act.put, List.setIfInBounds_toArray, List.set_cons_succ, List.set_cons_zero]) | (go_at_call 39; (with_reducible refine hfm.mono ?_); rintro e w1 ⟨rfl, hb1'⟩))
                    go_roundw
                    case rel => exact ⟨k + 1, by omega, by go_num, by unfold Hid; rw [htk.out]; exact HZ.out, below_then HB2.out hb1'⟩
                    case measure => simp [intOf]; omega
                  | false =>
                    have hf : Hid (wfS s = false) := by unfold Hid; rw [HW4.out, hno.out HZ.out]; simp
                    go_wp2_with (first | (refine wpList_row_w (by rfl) 34 _ rfl B0 rfl 34 _ (by with_reducible assumption) ⟨_, Tryd.underlying34⟩ (by kernel_rfl) ?_; simp only [Act.put, List.setIfInBounds_toArray, List.set_cons_succ, List.set_cons_zero]) | (refine wpList_load_mid rfl 58 _ rfl B2 _ rfl [.int .i64 x.a.kind, .int .i64 x.a.role, .int .i64 x.a.give, .int .i64 x.a.to_, .int .i64 x.a.unit, .int .i64 x.a.lot.1, .int .i64 x.a.lot.2] _ hra Tryd.underlying58 rfl (by kernel_rfl) ?_; simp only [Act.put, List.setIfInBounds_toArray, List.set_cons_succ, List.set_cons_zero]) | (go_at_call 39; (with_reducible refine hfm.mono ?_); rintro e w1 ⟨rfl, hb1'⟩))
                    go_ret
                    exact ⟨ret_bool hf.out.symm, HB0.out ▸ below_then (below_then HBY.out HB2.out) hb1'⟩
                · have hall := all_end hlt hN.out
                  have HW5 : Hid (wfS s = (s.cl.all (fun c => fmC s.sz c.c && fmS c))) := by unfold Hid; rw [HW4.out, hall]; simp
                  have c17 : wr.cell? ⟨B0, 17, none⟩ = some (.slice m.c s.cl.length m.cc) := gR.cell 17
                  clear HW4 hall hN hbr hmR gR
                  go_upto_region 22 with (fail)
                  clear c17 lR hlt hk
                  go_loopw [67] (fun y WR => ∃ k : Nat, k ≤ s.cl.length ∧ y = .int .i64 k ∧ Hid ((s.cl.take k).all (fun c => fmC s.sz c.c && fmS c) = true) ∧ Below wc.heap.size wc WR) (fun y _ => 2000000 - (intOf y).toNat)
                  case atStart => exact ⟨0, by omega, rfl, rfl, HBR.out⟩
                  case round =>
                    clear HBR
                    obtain ⟨k, hk, rfl, hN, hbr⟩ := hrel
                    have HBR := Lib.hid hbr
                    have gR := GY.out.then_ hbr
                    have hmR := HMY.out.then_ hbr
                    have lR := gR.lt
                    by_cases hlt : k < s.cl.length
                    · obtain ⟨x, hx⟩ : ∃ x, m.cs[k]? = some x := ⟨_, List.getElem?_eq_getElem (by rw [hmR.len]; exact hlt)⟩
                      obtain ⟨hcx, htx, hlx, _⟩ := hmR.cl hx
                      obtain ⟨b1, o1, ec, hb1, hc1⟩ := segCl hmR.y.c hx
                      have hrg : wr.rangeAt b1 (o1 + k * 24) (encCl x) := fun j v hv => hc1 j v hv
                      have htk := Lib.hid (all_take (p := fun c => fmC s.sz c.c && fmS c) hcx hN.out)
                      have hno := Lib.hid (all_no (p := fun c => fmC s.sz c.c && fmS c) hcx)
                      rw [ec]
                      go_upto_region 24 with ((refine wpList_elem 51 el24 _ _ _ rfl rfl rfl rfl rfl rfl rfl rfl rfl b1 _ rfl [.string x.c.nm, .int .i64 x.c.pos, .int .i64 x.c.wi.d, .bool x.c.wi.b, .string x.c.wi.nm, .int .i64 x.c.gr.d, .bool x.c.gr.b, .string x.c.gr.nm, .int .i64 x.c.c.kind, .int .i64 x.c.c.role, .int .i64 x.c.c.act, .int .i64 x.c.c.need, .slice x.A x.c.c.start.length x.cap, .int .i64 x.c.c.aft, .int .i64 x.c.c.grace, .bool x.c.c.bus, .bool x.c.c.fin, .int .i64 x.c.c.pause, .int .i64 x.c.c.resume, .int .i64 x.c.c.v.1, .int .i64 x.c.c.v.2, .int .i64 x.c.c.unit, .int .i64 x.c.c.to_, .bool x.c.c.waived] rfl hrg (by simp [Value.oneCell']) (by decide) (by simp) (by simp) ?_; simp only [Act.put, List.setIfInBounds_toArray, List.set_cons_succ, List.set_cons_zero]))
                      refine name_wp ?_
                      intro Y hY
                      have hbY2 : Below wr.heap.size wr Y := by rw [hY]; exact wa1 _ _
                      have gA : Blk Y wr.heap.size 51 (csA x) := by rw [hY]; exact Blk.new _ _ _
                      have gS := gR.then_ hbY2
                      have hra : Y.rangeAt wr.heap.size 8 [.int .i64 x.c.c.kind, .int .i64 x.c.c.role, .int .i64 x.c.c.act, .int .i64 x.c.c.need, .slice x.A x.c.c.start.length x.cap, .int .i64 x.c.c.aft, .int .i64 x.c.c.grace, .bool x.c.c.bus, .bool x.c.c.fin, .int .i64 x.c.c.pause, .int .i64 x.c.c.resume, .int .i64 x.c.c.v.1, .int .i64 x.c.c.v.2, .int .i64 x.c.c.unit, .int .i64 x.c.c.to_, .bool x.c.c.waived] := fun j v hv => (gA.cell (8 + j)).trans (by rw [← hv]; match j with | 0 | 1 | 2 | 3 | 4 | 5 | 6 | 7 | 8 | 9 | 10 | 11 | 12 | 13 | 14 | 15 => rfl | (n + 16) => rw [List.getElem?_eq_none (by simp), Array.getElem?_eq_none (by simp; omega)])
                      have lA := gA.lt
                      have lS := gS.lt
                      obtain ⟨z, hz⟩ : ∃ z, fmC s.sz x.c.c = z := ⟨_, rfl⟩
                      obtain ⟨z', hz'⟩ : ∃ z, fmS x.c = z := ⟨_, rfl⟩
                      have HZ := Lib.hid (And.intro hz hz')
                      have hfm := fmC_any s m x.c.c x.A x.cap Y (NY.out.below (below_then hbr hbY2)) ((htx.below hbY2).more hbY2.size) hlx
                      have hfs := fun W => fmS_any x W
                      rw [hz] at hfm
                      rw [hz'] at hfs
                      have HFS := Lib.hid hfs
                      have HB2 := Lib.hid (below_then hbr hbY2)
                      obtain ⟨B2, hB2⟩ : ∃ B2, wr.heap.size = B2 := ⟨_, rfl⟩
                      have HB2e := Lib.hid hB2
                      rw [hB2] at hra lA gA
                      rw [hB2]
                      have GA := Lib.hid gA
                      clear hz hz' hfs hc1 hbr hmR hx hcx htx hlx hY hbY2 hrg hB2 gR lR gA
                      cases z with
                      | false =>
                        have hf : Hid (wfS s = false) := by unfold Hid; rw [HW5.out, hno.out (by rw [HZ.out.1]; rfl)]
                        go_wp2_with (first | (refine wpList_row_w (by rfl) 51 _ rfl B2 rfl 51 _ gA2 ⟨_, Tryd.underlying51⟩ (by kernel_rfl) ?_; simp only [Act.put, List.setIfInBounds_toArray, List.set_cons_succ, List.set_cons_zero]) | (refine wpList_row_w (by rfl) 34 _ rfl B0 rfl 34 _ (by with_reducible assumption) ⟨_, Tryd.underlying34⟩ (by kernel_rfl) ?_; simp only [Act.put, List.setIfInBounds_toArray, List.set_cons_succ, List.set_cons_zero]) | (refine wpList_load_mid rfl 49 _ rfl B2 _ rfl [.int .i64 x.c.c.kind, .int .i64 x.c.c.role, .int .i64 x.c.c.act, .int .i64 x.c.c.need, .slice x.A x.c.c.start.length x.cap, .int .i64 x.c.c.aft, .int .i64 x.c.c.grace, .bool x.c.c.bus, .bool x.c.c.fin, .int .i64 x.c.c.pause, .int .i64 x.c.c.resume, .int .i64 x.c.c.v.1, .int .i64 x.c.c.v.2, .int .i64 x.c.c.unit, .int .i64 x.c.c.to_, .bool x.c.c.waived] _ hra Tryd.underlying49 rfl (by kernel_rfl) ?_; simp only [Act.put, List.setIfInBounds_toArray, List.set_cons_succ, List.set_cons_zero]) | (go_at_call 40; (with_reducible refine hfm.mono ?_); rintro e w1 ⟨rfl, hb1'⟩; have gA2 := GA.out.then_ hb1'; have lA2 := gA2.lt) | (go_at_call 41; (with_reducible refine (HFS.out _).mono ?_); rintro e w2 ⟨rfl, hb2'⟩))
                        go_ret
                        exact ⟨ret_bool hf.out.symm, HB0.out ▸ below_then (below_then HBY.out HB2.out) (by assumption)⟩
                      | true =>
                        cases z' with
                        | false =>
                          have hf : Hid (wfS s = false) := by unfold Hid; rw [HW5.out, hno.out (by rw [HZ.out.1, HZ.out.2]; rfl)]
                          go_wp2_with (first | (refine wpList_row_w (by rfl) 51 _ rfl B2 rfl 51 _ gA2 ⟨_, Tryd.underlying51⟩ (by kernel_rfl) ?_; simp only [Act.put, List.setIfInBounds_toArray, List.set_cons_succ, List.set_cons_zero]) | (refine wpList_row_w (by rfl) 34 _ rfl B0 rfl 34 _ (by with_reducible assumption) ⟨_, Tryd.underlying34⟩ (by kernel_rfl) ?_; simp only [Act.put, List.setIfInBounds_toArray, List.set_cons_succ, List.set_cons_zero]) | (refine wpList_load_mid rfl 49 _ rfl B2 _ rfl [.int .i64 x.c.c.kind, .int .i64 x.c.c.role, .int .i64 x.c.c.act, .int .i64 x.c.c.need, .slice x.A x.c.c.start.length x.cap, .int .i64 x.c.c.aft, .int .i64 x.c.c.grace, .bool x.c.c.bus, .bool x.c.c.fin, .int .i64 x.c.c.pause, .int .i64 x.c.c.resume, .int .i64 x.c.c.v.1, .int .i64 x.c.c.v.2, .int .i64 x.c.c.unit, .int .i64 x.c.c.to_, .bool x.c.c.waived] _ hra Tryd.underlying49 rfl (by kernel_rfl) ?_; simp only [Act.put, List.setIfInBounds_toArray, List.set_cons_succ, List.set_cons_zero]) | (go_at_call 40; (with_reducible refine hfm.mono ?_); rintro e w1 ⟨rfl, hb1'⟩; have gA2 := GA.out.then_ hb1'; have lA2 := gA2.lt) | (go_at_call 41; (with_reducible refine (HFS.out _).mono ?_); rintro e w2 ⟨rfl, hb2'⟩))
                          go_ret
                          exact ⟨ret_bool hf.out.symm, HB0.out ▸ below_then (below_then (below_then HBY.out HB2.out) (by assumption)) (by assumption)⟩
                        | true =>
                          go_wp2_with (first | (refine wpList_row_w (by rfl) 51 _ rfl B2 rfl 51 _ gA2 ⟨_, Tryd.underlying51⟩ (by kernel_rfl) ?_; simp only [Act.put, List.setIfInBounds_toArray, List.set_cons_succ, List.set_cons_zero]) | (refine wpList_row_w (by rfl) 34 _ rfl B0 rfl 34 _ (by with_reducible assumption) ⟨_, Tryd.underlying34⟩ (by kernel_rfl) ?_; simp only [Act.put, List.setIfInBounds_toArray, List.set_cons_succ, List.set_cons_zero]) | (refine wpList_load_mid rfl 49 _ rfl B2 _ rfl [.int .i64 x.c.c.kind, .int .i64 x.c.c.role, .int .i64 x.c.c.act, .int .i64 x.c.c.need, .slice x.A x.c.c.start.length x.cap, .int .i64 x.c.c.aft, .int .i64 x.c.c.grace, .bool x.c.c.bus, .bool x.c.c.fin, .int .i64 x.c.c.pause, .int .i64 x.c.c.resume, .int .i64 x.c.c.v.1, .int .i64 x.c.c.v.2, .int .i64 x.c.c.unit, .int .i64 x.c.c.to_, .bool x.c.c.waived] _ hra Tryd.underlying49 rfl (by kernel_rfl) ?_; simp only [Act.put, List.setIfInBounds_toArray, List.set_cons_succ, List.set_cons_zero]) | (go_at_call 40; (with_reducible refine hfm.mono ?_); rintro e w1 ⟨rfl, hb1'⟩; have gA2 := GA.out.then_ hb1'; have lA2 := gA2.lt) | (go_at_call 41; (with_reducible refine (HFS.out _).mono ?_); rintro e w2 ⟨rfl, hb2'⟩))
                          go_roundw
                          case rel => exact ⟨k + 1, by omega, by go_num, by unfold Hid; rw [htk.out, HZ.out.1, HZ.out.2]; rfl, below_then (below_then HB2.out (by assumption)) (by assumption)⟩
                          case measure => simp [intOf]; omega
                    · have hall := all_end hlt hN.out
                      have hf : Hid (wfS s = true) := by unfold Hid; rw [HW5.out, hall]
                      clear hbr hmR gR
                      go_wp2
                      go_ret
                      exact ⟨ret_bool hf.out.symm, HB0.out ▸ below_then HBY.out HBR.out⟩
end Go.Proofs.YtcfjehohemdanaaDoor
