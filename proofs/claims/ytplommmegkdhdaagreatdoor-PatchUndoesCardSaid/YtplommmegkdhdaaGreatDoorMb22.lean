/- Contracts of functions and plain laws, joined: Pz1. -/
import Derived.Test.YtplommmegkdhdaaGreatDoorMb21
/- The walk of patch.Text. -/
namespace Go.Proofs.YtplommmegkdhdaaGreatDoor
open Go.RowKit

theorem nums_eq (p : Pat) (N M : Nat) (hN : p.cls.length = N) (hM : p.new.start.length = M) : ((((((((((((((((((((([] ++ [p.kind]) ++ [p.days]) ++ [(N : Int)]) ++ p.cls) ++ [p.new.kind]) ++ [p.new.role]) ++ [p.new.act]) ++ [p.new.need]) ++ [p.new.aft]) ++ [p.new.grace]) ++ [(bitI p.new.bus)]) ++ [(bitI p.new.fin)]) ++ [p.new.pause]) ++ [p.new.resume]) ++ [p.new.v.1]) ++ [p.new.v.2]) ++ [p.new.unit]) ++ [p.new.to_]) ++ [(bitI p.new.waived)]) ++ [(M : Int)]) ++ prsI p.new.start) = p.nums := by
  subst hN
  subst hM
  simp only [Pat.nums, Cla.numsA, List.nil_append, List.append_assoc, List.cons_append]
set_option maxRecDepth 100000 in
set_option maxHeartbeats 6400000 in
theorem text_any (w0 : World) (hL : Lw w0) (p : Pat) (pm : Pm) (hp : PatM w0 p pm) (h1 : p.cls.length ≤ 400) (h2 : p.new.start.length ≤ 8) (hI : ∀ n ∈ p.nums, I64 n) :
    Calls Tryz.prog 17 #[.agg (pL p pm)] w0 fun e w' => e = .returned (.string (bA p.text)) ∧ Below w0.heap.size w0 w' := by
  have kc := fun (w : World) (C : Array Value) (n c : Nat) => Lib.run_convert_bytes_const (P := Tryz.prog) w 89 5 C n c Tryz.underlying89 Tryz.underlying5
  have hst := fun (f : Fn) (a b : Array Value) (W : World) (x : Addr) => run_store Tryz.prog W x (.func f a b) .plain rfl
  have HT := Lib.hid (Lib.tabBelow_of_tabIs hL.tab)
  have hcls : ∀ n ∈ p.cls, I64 n := fun n h => hI n (by simp [Pat.nums, h])
  have hst : ∀ s ∈ p.new.start, I64 s.1 ∧ I64 s.2 := fun s h => ⟨hI _ (List.mem_append_right _ (List.mem_flatMap.2 ⟨s, h, by simp⟩)), hI _ (List.mem_append_right _ (List.mem_flatMap.2 ⟨s, h, by simp⟩))⟩
  have HCL := Lib.hid hcls
  have HST := Lib.hid hst
  have I_kind := Lib.hid (hI p.new.kind (by simp [Pat.nums, Cla.numsA]))
  have I_role := Lib.hid (hI p.new.role (by simp [Pat.nums, Cla.numsA]))
  have I_act := Lib.hid (hI p.new.act (by simp [Pat.nums, Cla.numsA]))
  have I_need := Lib.hid (hI p.new.need (by simp [Pat.nums, Cla.numsA]))
  have I_aft := Lib.hid (hI p.new.aft (by simp [Pat.nums, Cla.numsA]))
  have I_grace := Lib.hid (hI p.new.grace (by simp [Pat.nums, Cla.numsA]))
  have I_pause := Lib.hid (hI p.new.pause (by simp [Pat.nums, Cla.numsA]))
  have I_resume := Lib.hid (hI p.new.resume (by simp [Pat.nums, Cla.numsA]))
  have I_v_1 := Lib.hid (hI p.new.v.1 (by simp [Pat.nums, Cla.numsA]))
  have I_v_2 := Lib.hid (hI p.new.v.2 (by simp [Pat.nums, Cla.numsA]))
  have I_unit := Lib.hid (hI p.new.unit (by simp [Pat.nums, Cla.numsA]))
  have I_to_ := Lib.hid (hI p.new.to_ (by simp [Pat.nums, Cla.numsA]))
  have I_k := Lib.hid (hI p.kind (by simp [Pat.nums]))
  have I_d := Lib.hid (hI p.days (by simp [Pat.nums]))
  have HTX : Hid (p.text = pword ++ p.nums.flatMap wnum) := if_pos ⟨h1, h2⟩
  have HP := Lib.hid hp
  obtain ⟨N, eN⟩ : ∃ N, p.cls.length = N := ⟨_, rfl⟩
  obtain ⟨M, eM⟩ : ∃ M, p.new.start.length = M := ⟨_, rfl⟩
  have HN := Lib.hid eN
  have HM := Lib.hid eM
  rw [eN] at h1
  rw [eM] at h2
  have t1 : decide ((400 : Int) < (N : Int)) = false := decide_eq_false (by omega)
  have t2 : decide ((8 : Int) < (M : Int)) = false := decide_eq_false (by omega)
  have I_N : Hid (I64 (N : Int)) := ⟨by omega, by omega⟩
  have I_M : Hid (I64 (M : Int)) := ⟨by omega, by omega⟩
  clear hp hI hcls hst eN eM hL
  go_enter Tryz.func17, Tryz.ntmps17
  go_upto_region 1 with (fail)
  refine name_wp ?_
  intro Y0 hY
  have gp0 : Blk Y0 w0.heap.size 34 (pL p pm) := by rw [hY]; exact Blk.new _ _ _
  have hb0 : Below w0.heap.size w0 Y0 := by rw [hY]; exact wa1 _ _
  have ES : Hid (Y0.heap.size = w0.heap.size + 1) := by unfold Hid; rw [hY]; simp
  clear hY
  have cp1 : Y0.cell? ⟨w0.heap.size, 1, none⟩ = some (.slice pm.p N pm.pc) := by rw [← HN.out]; exact gp0.cell 1
  have cp6 : Y0.cell? ⟨w0.heap.size, 6, none⟩ = some (.slice pm.A M pm.cap) := by rw [← HM.out]; exact gp0.cell 6
  go_upto_region 6 with (fail)
  clear cp1 cp6
  refine name_wp ?_
  intro Y hY
  have gp : Blk Y w0.heap.size 34 (pL p pm) := by rw [hY]; first | exact ((gp0.alloc _).alloc _).alloc _ | exact (((gp0.alloc _).alloc _).alloc _).far (by simp; omega) _
  have gw : Blk Y (Y0.heap.size + 2) 91 #[.func (.func 35) #[] #[.pointer (some ⟨Y0.heap.size + 1, 0, none⟩)]] := by rw [hY]; first | exact blk_at (by simp) | exact (Blk.set_ (cs := #[.nilFunc]) (blk_at (by simp)) 0 _)
  have gb : Blk Y (Y0.heap.size + 1) 89 #[.slice (some ⟨Y0.heap.size, 0, none⟩) 5 5] := by rw [hY]; first | exact (blk_at (by simp)).alloc _ | exact ((blk_at (by simp)).alloc _).far (by simp) _
  have hro : ∀ j u, (pword.flatMap eB)[j]? = some u → Y.cell? ⟨Y0.heap.size, j, none⟩ = some u := fun j u h => by
    rw [hY]
    have e1 : (Y0.alloc (.cells #[.int .u8 112, .int .u8 97, .int .u8 116, .int .u8 99, .int .u8 104] 5 (5, 6))).cell? ⟨Y0.heap.size, j, none⟩ = some u := by rw [Go.Joins.cell_alloc_mark_at _ _ _ _ _ _ rfl]; simpa [pword, eB] using h
    rw [((wa1 _ _).trans ((Below.refl _ _).alloc (by simp) _)).cell (p := ⟨Y0.heap.size, j, none⟩) (by simp)]
    exact e1
  have hbY : Below w0.heap.size w0 Y := by rw [hY]; exact ((hb0.alloc (by have := ES.out; omega) _).alloc (by have := ES.out; simp; omega) _).alloc (by have := ES.out; simp; omega) _
  have lY : Y.heap.size = Y0.heap.size + 3 := by rw [hY]; simp
  have es := ES.out
  clear hY gp0 hb0 ES
  obtain ⟨ro, ero⟩ : ∃ b, Y0.heap.size = b := ⟨_, rfl⟩
  rw [ero] at gw gb hro lY es ⊢
  clear ero
  obtain ⟨bw, ebw⟩ : ∃ b, ro + 2 = b := ⟨_, rfl⟩
  obtain ⟨bo, ebo⟩ : ∃ b, ro + 1 = b := ⟨_, rfl⟩
  obtain ⟨bp, ebp⟩ : ∃ b, w0.heap.size = b := ⟨_, rfl⟩
  have DT : Hid (Dt w0 bp bo bw) := ⟨by omega, by omega, by omega⟩
  have NY : Hid (bo < Y.heap.size) := by unfold Hid; omega
  rw [ebw] at gw ⊢
  rw [ebo] at gw gb ⊢
  rw [ebp] at gp ⊢
  clear ebw ebo ebp es lY
  have HF1 := Lib.hid (write_first w0 Y HT.out p.kind I_k.out bo DT.out.o _ pword gb ro rfl hro (by decide) hbY)
  have cw : Y.cell? ⟨bw, 0, none⟩ = some (.func (.func 35) #[] #[.pointer (some ⟨bo, 0, none⟩)]) := gw.cell 0
  have cp0 : Y.cell? ⟨bp, 0, none⟩ = some (.int .i64 p.kind) := gp.cell 0
  have GP := Lib.hid gp
  have GW := Lib.hid gw
  clear hro hbY gp gw gb kc
  go_upto_region 7 with (go_at_call 35; (with_reducible refine HF1.out.mono ?_); rintro e w1 ⟨rfl, ho1, hb1, hk1⟩)
  obtain ⟨Y1, rfl⟩ : ∃ W, W = w1 := ⟨_, rfl⟩
  have hT1 : TxW w0 Y1 bp bo bw (pL p pm) ([] ++ [p.kind]) := ⟨by obtain ⟨sv, q1, q2⟩ := ho1; exact ⟨sv, by simpa using q1, q2⟩, GW.out.others hk1 (fun e => DT.out.w (Option.some.inj e)) (by decide), GP.out.others hk1 (fun e => DT.out.p (Option.some.inj e)) (by decide), hb1, tx_len (L := []) (by decide) I_k.out⟩
  have HS : Hid (TxW w0 Y1 bp bo bw (pL p pm) ([] ++ [p.kind]) ∧ True) := ⟨hT1, trivial⟩
  clear hT1 ho1 hb1 hk1 cw cp0 HF1 GP GW NY
  have cw : Y1.cell? ⟨bw, 0, none⟩ = some (.func (.func 35) #[] #[.pointer (some ⟨bo, 0, none⟩)]) := (HS.out.1).f.cell 0
  have cp18 : Y1.cell? ⟨bp, 18, none⟩ = some (.int .i64 p.days) := by exact (HS.out.1).p.cell 18
  go_upto_region 8 with (go_at_call 35; (with_reducible refine ((HS.out.1).wr DT.out HT.out I_d.out (by simp only [List.length_append, List.length_singleton, List.length_nil]; omega)).mono ?_); rintro e w1 ⟨rfl, hT1, hk1⟩)
  clear cw cp18
  obtain ⟨Y2, rfl⟩ : ∃ W, W = w1 := ⟨_, rfl⟩
  have HX : Hid (TxW w0 Y2 bp bo bw (pL p pm) (([] ++ [p.kind]) ++ [p.days]) ∧ True) := ⟨hT1, trivial⟩
  clear HS hT1 hk1
  have HS := HX
  clear HX
  have cw : Y2.cell? ⟨bw, 0, none⟩ = some (.func (.func 35) #[] #[.pointer (some ⟨bo, 0, none⟩)]) := (HS.out.1).f.cell 0
  have cp1 : Y2.cell? ⟨bp, 1, none⟩ = some (.slice pm.p N pm.pc) := by rw [← HN.out]; exact (HS.out.1).p.cell 1
  go_upto_region 9 with (go_at_call 35; (with_reducible refine ((HS.out.1).wr DT.out HT.out I_N.out (by simp only [List.length_append, List.length_singleton, List.length_nil]; omega)).mono ?_); rintro e w1 ⟨rfl, hT1, hk1⟩)
  clear cw cp1
  obtain ⟨Y3, rfl⟩ : ∃ W, W = w1 := ⟨_, rfl⟩
  have HX : Hid (TxW w0 Y3 bp bo bw (pL p pm) ((([] ++ [p.kind]) ++ [p.days]) ++ [(N : Int)]) ∧ True) := ⟨hT1, trivial⟩
  clear HS hT1 hk1
  have HS := HX
  clear HX
  have cp1 : Y3.cell? ⟨bp, 1, none⟩ = some (.slice pm.p N pm.pc) := by rw [← HN.out]; exact (HS.out.1).p.cell 1
  go_upto_region 10 with (fail)
  go_loopw [7, 46] (fun x y WR => ∃ (i : Nat), i ≤ N ∧ y = .int .i64 i ∧ Hid (TxW w0 WR bp bo bw (pL p pm) (((([] ++ [p.kind]) ++ [p.days]) ++ [(N : Int)]) ++ p.cls.take i) ∧ True)) (fun _ y _ => 2000000 - (intOf y).toNat)
  case atStart => exact ⟨0, by omega, rfl, ⟨by simpa using HS.out.1, trivial⟩⟩
  case round =>
    clear HS cp1
    obtain ⟨i, hi', rfl, HS⟩ := hrel
    by_cases hlt : i < N
    · have tn : decide ((i : Int) < (N : Int)) = true := decide_eq_true (by omega)
      have hwi := wrap_small (n := i) (by omega)
      obtain ⟨q, hq⟩ : ∃ q, p.cls[i]? = some q := ⟨_, List.getElem?_eq_getElem (by rw [HN.out]; exact hlt)⟩
      obtain ⟨b0, o0, eA0, hb0, hc0⟩ := segAt (HP.out.then_ HS.out.1.k).s hq
      have cq : wr.cell? ⟨b0, o0 + i, none⟩ = some (.int .i64 q) := by simpa using hc0 0 _ rfl
      have hix := fun W => idx_at (t := 22) (size := 1) (cap := pm.pc) (len := N) (k := i) eA0 hlt (by kernel_rfl) (fun W => by kernel_rfl) W
      have HQ := Lib.hid hq
      have IQ := Lib.hid (HCL.out q (List.mem_of_getElem? hq))
      clear hq hc0 eA0 hb0
      have cw : wr.cell? ⟨bw, 0, none⟩ = some (.func (.func 35) #[] #[.pointer (some ⟨bo, 0, none⟩)]) := (HS.out.1).f.cell 0
      go_wp2_with (go_at_call 35; (with_reducible refine ((HS.out.1).wr DT.out HT.out IQ.out (by simp only [List.length_append, List.length_singleton, List.length_nil]; rw [List.length_take]; omega)).mono ?_); rintro e w1 ⟨rfl, hT1, hk1⟩)
      first | exact ⟨⟨i + 1, by omega, rfl, ⟨by rw [pre_take HQ.out]; exact hT1, trivial⟩⟩, by simp [intOf]; omega⟩ | (go_roundw; (case rel => exact ⟨i + 1, by omega, rfl, ⟨by rw [pre_take HQ.out]; exact hT1, trivial⟩⟩); (case measure => simp [intOf]; omega))
    · have tn : decide ((i : Int) < (N : Int)) = false := decide_eq_false (by omega)
      obtain rfl : N = i := by omega
      rw [List.take_of_length_le (by rw [HN.out]; exact Nat.le_refl _)] at HS
      clear tn hlt hi'
      go_upto_region 14 with (fail)
      go_upto_region 15 with ((refine wpList_mid_w (by rfl) 32 _ rfl bp _ rfl (kL ⟨p.new, pm.A, pm.cap⟩) _ (Blk.range (pre := [.int .i64 p.kind, .slice pm.p p.cls.length pm.pc]) (mid := kL ⟨p.new, pm.A, pm.cap⟩) (post := [.int .i64 p.days]) HS.out.1.p) Tryz.underlying32 rfl (by kernel_rfl) ?_; simp only [Act.put, List.setIfInBounds_toArray, List.set_cons_succ, List.set_cons_zero]))
      refine name_wp ?_
      intro Yk hYk
      obtain ⟨bk, ebk⟩ : ∃ b, wr.heap.size = b := ⟨_, rfl⟩
      have gk : Blk Yk bk 32 #[.int .i64 p.new.kind, .int .i64 p.new.role, .int .i64 p.new.act, .int .i64 p.new.need, .slice pm.A M pm.cap, .int .i64 p.new.aft, .int .i64 p.new.grace, .bool p.new.bus, .bool p.new.fin, .int .i64 p.new.pause, .int .i64 p.new.resume, .int .i64 p.new.v.1, .int .i64 p.new.v.2, .int .i64 p.new.unit, .int .i64 p.new.to_, .bool p.new.waived] := by rw [hYk, ← ebk, ← HM.out]; exact Blk.new _ _ _
      have hbk : Below wr.heap.size wr Yk := by rw [hYk]; exact wa1 _ _
      have NQ0 : Hid (bo < bk) := by have := (HS.out.1.o); obtain ⟨_, _, g⟩ := this; have := g.lt; unfold Hid; omega
      try rw [ebk]
      clear hYk ebk
      have HX : Hid (TxW w0 Yk bp bo bw (pL p pm) (((([] ++ [p.kind]) ++ [p.days]) ++ [(N : Int)]) ++ p.cls) ∧ Blk Yk bk 32 #[.int .i64 p.new.kind, .int .i64 p.new.role, .int .i64 p.new.act, .int .i64 p.new.need, .slice pm.A M pm.cap, .int .i64 p.new.aft, .int .i64 p.new.grace, .bool p.new.bus, .bool p.new.fin, .int .i64 p.new.pause, .int .i64 p.new.resume, .int .i64 p.new.v.1, .int .i64 p.new.v.2, .int .i64 p.new.unit, .int .i64 p.new.to_, .bool p.new.waived] ∧ True) := ⟨HS.out.1.then_ hbk, gk, trivial⟩
      clear HS gk hbk
      have HS := HX
      clear HX
      have NQ := NQ0
      have ck0 : Yk.cell? ⟨bk, 0, none⟩ = some (.int .i64 p.new.kind) := (HS.out.2.1).cell 0
      have ck1 : Yk.cell? ⟨bk, 1, none⟩ = some (.int .i64 p.new.role) := (HS.out.2.1).cell 1
      have ck2 : Yk.cell? ⟨bk, 2, none⟩ = some (.int .i64 p.new.act) := (HS.out.2.1).cell 2
      have ck3 : Yk.cell? ⟨bk, 3, none⟩ = some (.int .i64 p.new.need) := (HS.out.2.1).cell 3
      have ck5 : Yk.cell? ⟨bk, 5, none⟩ = some (.int .i64 p.new.aft) := (HS.out.2.1).cell 5
      have ck6 : Yk.cell? ⟨bk, 6, none⟩ = some (.int .i64 p.new.grace) := (HS.out.2.1).cell 6
      go_upto_region 16 with (fail)
      clear ck0 ck1 ck2 ck3 ck5 ck6
      refine name_wp ?_
      intro Va hV
      obtain ⟨qa, eqa⟩ : ∃ b, Yk.heap.size = b := ⟨_, rfl⟩
      have gq : Blk Va qa 3 #[.int .i64 p.new.kind, .int .i64 p.new.role, .int .i64 p.new.act, .int .i64 p.new.need, .int .i64 p.new.aft, .int .i64 p.new.grace] := by rw [hV, ← eqa]; exact Blk.new _ _ _
      have hbq : Below Yk.heap.size Yk Va := by rw [hV]; exact wa1 _ _
      have NQ1 : Hid (bo < bk ∧ bo < qa) := ⟨by have := NQ0.out; omega, by have := (HS.out.1.o); obtain ⟨_, _, g⟩ := this; have := g.lt; omega⟩
      try rw [eqa]
      clear hV eqa
      have HX : Hid (TxW w0 Va bp bo bw (pL p pm) (((([] ++ [p.kind]) ++ [p.days]) ++ [(N : Int)]) ++ p.cls) ∧ Blk Va bk 32 #[.int .i64 p.new.kind, .int .i64 p.new.role, .int .i64 p.new.act, .int .i64 p.new.need, .slice pm.A M pm.cap, .int .i64 p.new.aft, .int .i64 p.new.grace, .bool p.new.bus, .bool p.new.fin, .int .i64 p.new.pause, .int .i64 p.new.resume, .int .i64 p.new.v.1, .int .i64 p.new.v.2, .int .i64 p.new.unit, .int .i64 p.new.to_, .bool p.new.waived] ∧ Blk Va qa 3 #[.int .i64 p.new.kind, .int .i64 p.new.role, .int .i64 p.new.act, .int .i64 p.new.need, .int .i64 p.new.aft, .int .i64 p.new.grace] ∧ True) := ⟨TxW.then_ (HS.out.1) hbq, Blk.then_ (HS.out.2.1) hbq, gq, trivial⟩
      clear HS gq hbq NQ
      have HS := HX
      clear HX
      have NQ := NQ1
      refine six_a w0 Va bp bo bw qa (pL p pm) (((([] ++ [p.kind]) ++ [p.days]) ++ [(N : Int)]) ++ p.cls) p.new.kind p.new.role p.new.act p.new.need p.new.aft p.new.grace DT HT I_kind I_role I_act I_need I_aft I_grace (by simp only [List.length_append, List.length_singleton, List.length_nil]; (try rw [HN.out]); omega) HS.out.1 HS.out.2.2.1 (by have := NQ.out; omega) ?_
      intro za0 za1 za2 za3 za4 za5 za6 za7 za8 wr hT1 hk1
      have HX : Hid (TxW w0 wr bp bo bw (pL p pm) (((((((((([] ++ [p.kind]) ++ [p.days]) ++ [(N : Int)]) ++ p.cls) ++ [p.new.kind]) ++ [p.new.role]) ++ [p.new.act]) ++ [p.new.need]) ++ [p.new.aft]) ++ [p.new.grace]) ∧ Blk wr bk 32 #[.int .i64 p.new.kind, .int .i64 p.new.role, .int .i64 p.new.act, .int .i64 p.new.need, .slice pm.A M pm.cap, .int .i64 p.new.aft, .int .i64 p.new.grace, .bool p.new.bus, .bool p.new.fin, .int .i64 p.new.pause, .int .i64 p.new.resume, .int .i64 p.new.v.1, .int .i64 p.new.v.2, .int .i64 p.new.unit, .int .i64 p.new.to_, .bool p.new.waived] ∧ True) := ⟨hT1, Blk.others (HS.out.2.1) hk1 (fun e => by have := Option.some.inj e; have := NQ.out; omega) (by decide), trivial⟩
      clear HS hT1 hk1 NQ NQ1
      have HS := HX
      clear HX
      have NQ := NQ0
      obtain ⟨Wa, rfl⟩ : ∃ W, W = wr := ⟨_, rfl⟩
      have ck7 : Wa.cell? ⟨bk, 7, none⟩ = some (.bool p.new.bus) := (HS.out.2.1).cell 7
      go_upto_region 21 with (go_at_call 37; (with_reducible refine ((HS.out.1).fl DT.out HT.out p.new.bus (by simp only [List.length_append, List.length_singleton, List.length_nil]; (try rw [HN.out]); omega)).mono ?_); rintro e w1 ⟨rfl, hT1, hk1⟩)
      clear ck7
      obtain ⟨Y10, rfl⟩ : ∃ W, W = w1 := ⟨_, rfl⟩
      have HX : Hid (TxW w0 Y10 bp bo bw (pL p pm) ((((((((((([] ++ [p.kind]) ++ [p.days]) ++ [(N : Int)]) ++ p.cls) ++ [p.new.kind]) ++ [p.new.role]) ++ [p.new.act]) ++ [p.new.need]) ++ [p.new.aft]) ++ [p.new.grace]) ++ [(bitI p.new.bus)]) ∧ Blk Y10 bk 32 #[.int .i64 p.new.kind, .int .i64 p.new.role, .int .i64 p.new.act, .int .i64 p.new.need, .slice pm.A M pm.cap, .int .i64 p.new.aft, .int .i64 p.new.grace, .bool p.new.bus, .bool p.new.fin, .int .i64 p.new.pause, .int .i64 p.new.resume, .int .i64 p.new.v.1, .int .i64 p.new.v.2, .int .i64 p.new.unit, .int .i64 p.new.to_, .bool p.new.waived] ∧ True) := ⟨hT1, Blk.others (HS.out.2.1) hk1 (fun e => by have := Option.some.inj e; have := NQ.out; omega) (by decide), trivial⟩
      clear HS hT1 hk1
      have HS := HX
      clear HX
      have ck8 : Y10.cell? ⟨bk, 8, none⟩ = some (.bool p.new.fin) := (HS.out.2.1).cell 8
      go_upto_region 22 with (go_at_call 37; (with_reducible refine ((HS.out.1).fl DT.out HT.out p.new.fin (by simp only [List.length_append, List.length_singleton, List.length_nil]; (try rw [HN.out]); omega)).mono ?_); rintro e w1 ⟨rfl, hT1, hk1⟩)
      clear ck8
      obtain ⟨Y11, rfl⟩ : ∃ W, W = w1 := ⟨_, rfl⟩
      have HX : Hid (TxW w0 Y11 bp bo bw (pL p pm) (((((((((((([] ++ [p.kind]) ++ [p.days]) ++ [(N : Int)]) ++ p.cls) ++ [p.new.kind]) ++ [p.new.role]) ++ [p.new.act]) ++ [p.new.need]) ++ [p.new.aft]) ++ [p.new.grace]) ++ [(bitI p.new.bus)]) ++ [(bitI p.new.fin)]) ∧ Blk Y11 bk 32 #[.int .i64 p.new.kind, .int .i64 p.new.role, .int .i64 p.new.act, .int .i64 p.new.need, .slice pm.A M pm.cap, .int .i64 p.new.aft, .int .i64 p.new.grace, .bool p.new.bus, .bool p.new.fin, .int .i64 p.new.pause, .int .i64 p.new.resume, .int .i64 p.new.v.1, .int .i64 p.new.v.2, .int .i64 p.new.unit, .int .i64 p.new.to_, .bool p.new.waived] ∧ True) := ⟨hT1, Blk.others (HS.out.2.1) hk1 (fun e => by have := Option.some.inj e; have := NQ.out; omega) (by decide), trivial⟩
      clear HS hT1 hk1
      have HS := HX
      clear HX
      have ck9 : Y11.cell? ⟨bk, 9, none⟩ = some (.int .i64 p.new.pause) := (HS.out.2.1).cell 9
      have ck10 : Y11.cell? ⟨bk, 10, none⟩ = some (.int .i64 p.new.resume) := (HS.out.2.1).cell 10
      have ck11 : Y11.cell? ⟨bk, 11, none⟩ = some (.int .i64 p.new.v.1) := (HS.out.2.1).cell 11
      have ck12 : Y11.cell? ⟨bk, 12, none⟩ = some (.int .i64 p.new.v.2) := (HS.out.2.1).cell 12
      have ck13 : Y11.cell? ⟨bk, 13, none⟩ = some (.int .i64 p.new.unit) := (HS.out.2.1).cell 13
      have ck14 : Y11.cell? ⟨bk, 14, none⟩ = some (.int .i64 p.new.to_) := (HS.out.2.1).cell 14
      go_upto_region 23 with (fail)
      clear ck9 ck10 ck11 ck12 ck13 ck14
      refine name_wp ?_
      intro Vb hV
      obtain ⟨qb, eqb⟩ : ∃ b, Y11.heap.size = b := ⟨_, rfl⟩
      have gq : Blk Vb qb 3 #[.int .i64 p.new.pause, .int .i64 p.new.resume, .int .i64 p.new.v.1, .int .i64 p.new.v.2, .int .i64 p.new.unit, .int .i64 p.new.to_] := by rw [hV, ← eqb]; exact Blk.new _ _ _
      have hbq : Below Y11.heap.size Y11 Vb := by rw [hV]; exact wa1 _ _
      have NQ1 : Hid (bo < bk ∧ bo < qb) := ⟨by have := NQ0.out; omega, by have := (HS.out.1.o); obtain ⟨_, _, g⟩ := this; have := g.lt; omega⟩
      try rw [eqb]
      clear hV eqb
      have HX : Hid (TxW w0 Vb bp bo bw (pL p pm) (((((((((((([] ++ [p.kind]) ++ [p.days]) ++ [(N : Int)]) ++ p.cls) ++ [p.new.kind]) ++ [p.new.role]) ++ [p.new.act]) ++ [p.new.need]) ++ [p.new.aft]) ++ [p.new.grace]) ++ [(bitI p.new.bus)]) ++ [(bitI p.new.fin)]) ∧ Blk Vb bk 32 #[.int .i64 p.new.kind, .int .i64 p.new.role, .int .i64 p.new.act, .int .i64 p.new.need, .slice pm.A M pm.cap, .int .i64 p.new.aft, .int .i64 p.new.grace, .bool p.new.bus, .bool p.new.fin, .int .i64 p.new.pause, .int .i64 p.new.resume, .int .i64 p.new.v.1, .int .i64 p.new.v.2, .int .i64 p.new.unit, .int .i64 p.new.to_, .bool p.new.waived] ∧ Blk Vb qb 3 #[.int .i64 p.new.pause, .int .i64 p.new.resume, .int .i64 p.new.v.1, .int .i64 p.new.v.2, .int .i64 p.new.unit, .int .i64 p.new.to_] ∧ True) := ⟨TxW.then_ (HS.out.1) hbq, Blk.then_ (HS.out.2.1) hbq, gq, trivial⟩
      clear HS gq hbq NQ
      have HS := HX
      clear HX
      have NQ := NQ1
      refine six_b w0 Vb bp bo bw qb (pL p pm) (((((((((((([] ++ [p.kind]) ++ [p.days]) ++ [(N : Int)]) ++ p.cls) ++ [p.new.kind]) ++ [p.new.role]) ++ [p.new.act]) ++ [p.new.need]) ++ [p.new.aft]) ++ [p.new.grace]) ++ [(bitI p.new.bus)]) ++ [(bitI p.new.fin)]) p.new.pause p.new.resume p.new.v.1 p.new.v.2 p.new.unit p.new.to_ DT HT I_pause I_resume I_v_1 I_v_2 I_unit I_to_ (by simp only [List.length_append, List.length_singleton, List.length_nil]; (try rw [HN.out]); omega) HS.out.1 HS.out.2.2.1 (by have := NQ.out; omega) ?_
      intro zb0 zb1 zb2 zb3 zb4 zb5 zb6 zb7 zb8 wr hT1 hk1
      have HX : Hid (TxW w0 wr bp bo bw (pL p pm) (((((((((((((((((([] ++ [p.kind]) ++ [p.days]) ++ [(N : Int)]) ++ p.cls) ++ [p.new.kind]) ++ [p.new.role]) ++ [p.new.act]) ++ [p.new.need]) ++ [p.new.aft]) ++ [p.new.grace]) ++ [(bitI p.new.bus)]) ++ [(bitI p.new.fin)]) ++ [p.new.pause]) ++ [p.new.resume]) ++ [p.new.v.1]) ++ [p.new.v.2]) ++ [p.new.unit]) ++ [p.new.to_]) ∧ Blk wr bk 32 #[.int .i64 p.new.kind, .int .i64 p.new.role, .int .i64 p.new.act, .int .i64 p.new.need, .slice pm.A M pm.cap, .int .i64 p.new.aft, .int .i64 p.new.grace, .bool p.new.bus, .bool p.new.fin, .int .i64 p.new.pause, .int .i64 p.new.resume, .int .i64 p.new.v.1, .int .i64 p.new.v.2, .int .i64 p.new.unit, .int .i64 p.new.to_, .bool p.new.waived] ∧ True) := ⟨hT1, Blk.others (HS.out.2.1) hk1 (fun e => by have := Option.some.inj e; have := NQ.out; omega) (by decide), trivial⟩
      clear HS hT1 hk1 NQ NQ1
      have HS := HX
      clear HX
      have NQ := NQ0
      obtain ⟨Wb, rfl⟩ : ∃ W, W = wr := ⟨_, rfl⟩
      have ck15 : Wb.cell? ⟨bk, 15, none⟩ = some (.bool p.new.waived) := (HS.out.2.1).cell 15
      go_upto_region 28 with (go_at_call 37; (with_reducible refine ((HS.out.1).fl DT.out HT.out p.new.waived (by simp only [List.length_append, List.length_singleton, List.length_nil]; (try rw [HN.out]); omega)).mono ?_); rintro e w1 ⟨rfl, hT1, hk1⟩)
      clear ck15
      obtain ⟨Y12, rfl⟩ : ∃ W, W = w1 := ⟨_, rfl⟩
      have HX : Hid (TxW w0 Y12 bp bo bw (pL p pm) ((((((((((((((((((([] ++ [p.kind]) ++ [p.days]) ++ [(N : Int)]) ++ p.cls) ++ [p.new.kind]) ++ [p.new.role]) ++ [p.new.act]) ++ [p.new.need]) ++ [p.new.aft]) ++ [p.new.grace]) ++ [(bitI p.new.bus)]) ++ [(bitI p.new.fin)]) ++ [p.new.pause]) ++ [p.new.resume]) ++ [p.new.v.1]) ++ [p.new.v.2]) ++ [p.new.unit]) ++ [p.new.to_]) ++ [(bitI p.new.waived)]) ∧ Blk Y12 bk 32 #[.int .i64 p.new.kind, .int .i64 p.new.role, .int .i64 p.new.act, .int .i64 p.new.need, .slice pm.A M pm.cap, .int .i64 p.new.aft, .int .i64 p.new.grace, .bool p.new.bus, .bool p.new.fin, .int .i64 p.new.pause, .int .i64 p.new.resume, .int .i64 p.new.v.1, .int .i64 p.new.v.2, .int .i64 p.new.unit, .int .i64 p.new.to_, .bool p.new.waived] ∧ True) := ⟨hT1, Blk.others (HS.out.2.1) hk1 (fun e => by have := Option.some.inj e; have := NQ.out; omega) (by decide), trivial⟩
      clear HS hT1 hk1
      have HS := HX
      clear HX
      have cw : Y12.cell? ⟨bw, 0, none⟩ = some (.func (.func 35) #[] #[.pointer (some ⟨bo, 0, none⟩)]) := (HS.out.1).f.cell 0
      have ck4 : Y12.cell? ⟨bk, 4, none⟩ = some (.slice pm.A M pm.cap) := (HS.out.2.1).cell 4
      go_upto_region 29 with (go_at_call 35; (with_reducible refine ((HS.out.1).wr DT.out HT.out I_M.out (by simp only [List.length_append, List.length_singleton, List.length_nil]; (try rw [HN.out]); omega)).mono ?_); rintro e w1 ⟨rfl, hT1, hk1⟩)
      clear cw ck4
      obtain ⟨Y13, rfl⟩ : ∃ W, W = w1 := ⟨_, rfl⟩
      have HX : Hid (TxW w0 Y13 bp bo bw (pL p pm) (((((((((((((((((((([] ++ [p.kind]) ++ [p.days]) ++ [(N : Int)]) ++ p.cls) ++ [p.new.kind]) ++ [p.new.role]) ++ [p.new.act]) ++ [p.new.need]) ++ [p.new.aft]) ++ [p.new.grace]) ++ [(bitI p.new.bus)]) ++ [(bitI p.new.fin)]) ++ [p.new.pause]) ++ [p.new.resume]) ++ [p.new.v.1]) ++ [p.new.v.2]) ++ [p.new.unit]) ++ [p.new.to_]) ++ [(bitI p.new.waived)]) ++ [(M : Int)]) ∧ Blk Y13 bk 32 #[.int .i64 p.new.kind, .int .i64 p.new.role, .int .i64 p.new.act, .int .i64 p.new.need, .slice pm.A M pm.cap, .int .i64 p.new.aft, .int .i64 p.new.grace, .bool p.new.bus, .bool p.new.fin, .int .i64 p.new.pause, .int .i64 p.new.resume, .int .i64 p.new.v.1, .int .i64 p.new.v.2, .int .i64 p.new.unit, .int .i64 p.new.to_, .bool p.new.waived] ∧ True) := ⟨hT1, Blk.others (HS.out.2.1) hk1 (fun e => by have := Option.some.inj e; have := NQ.out; omega) (by decide), trivial⟩
      clear HS hT1 hk1
      have HS := HX
      clear HX
      have ck4 : Y13.cell? ⟨bk, 4, none⟩ = some (.slice pm.A M pm.cap) := (HS.out.2.1).cell 4
      go_upto_region 30 with (fail)
      go_loopw [14, 122] (fun x y WR => ∃ (i : Nat), i ≤ M ∧ y = .int .i64 i ∧ Hid (TxW w0 WR bp bo bw (pL p pm) ((((((((((((((((((((([] ++ [p.kind]) ++ [p.days]) ++ [(N : Int)]) ++ p.cls) ++ [p.new.kind]) ++ [p.new.role]) ++ [p.new.act]) ++ [p.new.need]) ++ [p.new.aft]) ++ [p.new.grace]) ++ [(bitI p.new.bus)]) ++ [(bitI p.new.fin)]) ++ [p.new.pause]) ++ [p.new.resume]) ++ [p.new.v.1]) ++ [p.new.v.2]) ++ [p.new.unit]) ++ [p.new.to_]) ++ [(bitI p.new.waived)]) ++ [(M : Int)]) ++ prsI (p.new.start.take i)) ∧ Blk WR bk 32 #[.int .i64 p.new.kind, .int .i64 p.new.role, .int .i64 p.new.act, .int .i64 p.new.need, .slice pm.A M pm.cap, .int .i64 p.new.aft, .int .i64 p.new.grace, .bool p.new.bus, .bool p.new.fin, .int .i64 p.new.pause, .int .i64 p.new.resume, .int .i64 p.new.v.1, .int .i64 p.new.v.2, .int .i64 p.new.unit, .int .i64 p.new.to_, .bool p.new.waived] ∧ True)) (fun _ y _ => 2000000 - (intOf y).toNat)
      case atStart => exact ⟨0, by omega, rfl, ⟨by simpa [prsI] using HS.out.1, HS.out.2.1, trivial⟩⟩
      case round =>
        clear HS ck4
        obtain ⟨i, hi', rfl, HS⟩ := hrel
        by_cases hlt : i < M
        · have tn : decide ((i : Int) < (M : Int)) = true := decide_eq_true (by omega)
          have hwi := wrap_small (n := i) (by omega)
          obtain ⟨s, hs⟩ : ∃ s, p.new.start[i]? = some s := ⟨_, List.getElem?_eq_getElem (by rw [HM.out]; exact hlt)⟩
          obtain ⟨b0, o0, eA0, hb0, hc0⟩ := segAt ((HP.out.then_ HS.out.1.k).k.s) hs
          have hrg : wr.rangeAt b0 (o0 + i * 2) (eS s) := fun j v hv => hc0 j v hv
          have hix := fun W => idx_at (t := 28) (size := 2) (cap := pm.cap) (len := M) (k := i) eA0 hlt (by kernel_rfl) (fun W => by kernel_rfl) W
          have HSS := Lib.hid hs
          have IS := Lib.hid (HST.out s (List.mem_of_getElem? hs))
          have hll : (p.new.start.take i).length ≤ 8 := by rw [List.length_take]; omega
          have hpl := prs_len (p.new.start.take i)
          clear hs hc0 eA0 hb0
          go_upto_region 32 with (refine wpList_elem 76 elS _ _ _ rfl rfl rfl rfl rfl rfl rfl rfl rfl b0 _ rfl (eS s) rfl hrg (by simp [Value.oneCell', eS]) (by decide) (by simp) (by simp) ?_; simp only [Act.put, List.setIfInBounds_toArray, List.set_cons_succ, List.set_cons_zero])
          refine name_wp ?_
          intro Z hZ
          obtain ⟨bs, ebs⟩ : ∃ b, wr.heap.size = b := ⟨_, rfl⟩
          have gs : Blk Z bs 76 #[.int .i64 s.1, .int .i64 s.2] := by rw [hZ, ← ebs]; exact Blk.new _ _ _
          have hbZ : Below wr.heap.size wr Z := by rw [hZ]; exact wa1 _ _
          have NQ1 : Hid (bo < bk ∧ bo < bs) := ⟨by have := NQ0.out; omega, by have := (HS.out.1.o); obtain ⟨_, _, g⟩ := this; have := g.lt; omega⟩
          try rw [ebs]
          clear hZ ebs hrg hix
          have HX : Hid (TxW w0 Z bp bo bw (pL p pm) ((((((((((((((((((((([] ++ [p.kind]) ++ [p.days]) ++ [(N : Int)]) ++ p.cls) ++ [p.new.kind]) ++ [p.new.role]) ++ [p.new.act]) ++ [p.new.need]) ++ [p.new.aft]) ++ [p.new.grace]) ++ [(bitI p.new.bus)]) ++ [(bitI p.new.fin)]) ++ [p.new.pause]) ++ [p.new.resume]) ++ [p.new.v.1]) ++ [p.new.v.2]) ++ [p.new.unit]) ++ [p.new.to_]) ++ [(bitI p.new.waived)]) ++ [(M : Int)]) ++ prsI (p.new.start.take i)) ∧ Blk Z bk 32 #[.int .i64 p.new.kind, .int .i64 p.new.role, .int .i64 p.new.act, .int .i64 p.new.need, .slice pm.A M pm.cap, .int .i64 p.new.aft, .int .i64 p.new.grace, .bool p.new.bus, .bool p.new.fin, .int .i64 p.new.pause, .int .i64 p.new.resume, .int .i64 p.new.v.1, .int .i64 p.new.v.2, .int .i64 p.new.unit, .int .i64 p.new.to_, .bool p.new.waived] ∧ Blk Z bs 76 #[.int .i64 s.1, .int .i64 s.2] ∧ True) := ⟨HS.out.1.then_ hbZ, HS.out.2.1.then_ hbZ, gs, trivial⟩
          clear HS gs hbZ NQ
          have HS := HX
          clear HX
          have NQ := NQ1
          have cw : Z.cell? ⟨bw, 0, none⟩ = some (.func (.func 35) #[] #[.pointer (some ⟨bo, 0, none⟩)]) := (HS.out.1).f.cell 0
          have cs0 : Z.cell? ⟨bs, 0, none⟩ = some (.int .i64 s.1) := HS.out.2.2.1.cell 0
          go_upto_region 33 with (go_at_call 35; (with_reducible refine ((HS.out.1).wr DT.out HT.out IS.out.1 (by simp only [List.length_append, List.length_singleton, List.length_nil]; (try rw [HN.out]); omega)).mono ?_); rintro e w1 ⟨rfl, hT1, hk1⟩)
          clear cw cs0
          obtain ⟨Y40, rfl⟩ : ∃ W, W = w1 := ⟨_, rfl⟩
          have HX : Hid (TxW w0 Y40 bp bo bw (pL p pm) (((((((((((((((((((((([] ++ [p.kind]) ++ [p.days]) ++ [(N : Int)]) ++ p.cls) ++ [p.new.kind]) ++ [p.new.role]) ++ [p.new.act]) ++ [p.new.need]) ++ [p.new.aft]) ++ [p.new.grace]) ++ [(bitI p.new.bus)]) ++ [(bitI p.new.fin)]) ++ [p.new.pause]) ++ [p.new.resume]) ++ [p.new.v.1]) ++ [p.new.v.2]) ++ [p.new.unit]) ++ [p.new.to_]) ++ [(bitI p.new.waived)]) ++ [(M : Int)]) ++ prsI (p.new.start.take i)) ++ [s.1]) ∧ Blk Y40 bk 32 #[.int .i64 p.new.kind, .int .i64 p.new.role, .int .i64 p.new.act, .int .i64 p.new.need, .slice pm.A M pm.cap, .int .i64 p.new.aft, .int .i64 p.new.grace, .bool p.new.bus, .bool p.new.fin, .int .i64 p.new.pause, .int .i64 p.new.resume, .int .i64 p.new.v.1, .int .i64 p.new.v.2, .int .i64 p.new.unit, .int .i64 p.new.to_, .bool p.new.waived] ∧ Blk Y40 bs 76 #[.int .i64 s.1, .int .i64 s.2] ∧ True) := ⟨hT1, Blk.others (HS.out.2.1) hk1 (fun e => by have := Option.some.inj e; have := NQ.out; omega) (by decide), Blk.others (HS.out.2.2.1) hk1 (fun e => by have := Option.some.inj e; have := NQ.out; omega) (by decide), trivial⟩
          clear HS hT1 hk1
          have HS := HX
          clear HX
          have cw : Y40.cell? ⟨bw, 0, none⟩ = some (.func (.func 35) #[] #[.pointer (some ⟨bo, 0, none⟩)]) := (HS.out.1).f.cell 0
          have cs1 : Y40.cell? ⟨bs, 1, none⟩ = some (.int .i64 s.2) := HS.out.2.2.1.cell 1
          go_wp2_with (go_at_call 35; (with_reducible refine ((HS.out.1).wr DT.out HT.out IS.out.2 (by simp only [List.length_append, List.length_singleton, List.length_nil]; (try rw [HN.out]); omega)).mono ?_); rintro e w1 ⟨rfl, hT1, hk1⟩)
          first | exact ⟨⟨i + 1, by omega, rfl, ⟨by rw [prs_take HSS.out]; exact hT1, Blk.others HS.out.2.1 hk1 (fun e => by have := Option.some.inj e; have := NQ.out; omega) (by decide), trivial⟩⟩, by simp [intOf]; omega⟩ | (go_roundw; (case rel => exact ⟨i + 1, by omega, rfl, ⟨by rw [prs_take HSS.out]; exact hT1, Blk.others HS.out.2.1 hk1 (fun e => by have := Option.some.inj e; have := NQ.out; omega) (by decide), trivial⟩⟩); (case measure => simp [intOf]; omega))
        · have tn : decide ((i : Int) < (M : Int)) = false := decide_eq_false (by omega)
          obtain rfl : M = i := by omega
          rw [List.take_of_length_le (by rw [HM.out]; exact Nat.le_refl _)] at HS
          clear tn hlt hi'
          obtain ⟨⟨sv, hO, hB⟩, _, _, hK, _⟩ := HS.out.1
          have c0 : wr.cell? ⟨bo, 0, none⟩ = some sv := hB.cell 0
          have hfin : pword ++ ((((((((((((((((((((([] ++ [p.kind]) ++ [p.days]) ++ [(N : Int)]) ++ p.cls) ++ [p.new.kind]) ++ [p.new.role]) ++ [p.new.act]) ++ [p.new.need]) ++ [p.new.aft]) ++ [p.new.grace]) ++ [(bitI p.new.bus)]) ++ [(bitI p.new.fin)]) ++ [p.new.pause]) ++ [p.new.resume]) ++ [p.new.v.1]) ++ [p.new.v.2]) ++ [p.new.unit]) ++ [p.new.to_]) ++ [(bitI p.new.waived)]) ++ [(M : Int)]) ++ prsI p.new.start).flatMap wnum = p.text := by rw [nums_eq p N M HN.out HM.out, HTX.out]
          rw [hfin] at hO
          have hcv := conv_bytes wr 89 5 9 Tryz.underlying89 Tryz.underlying5 Tryz.underlying9 hO (by rw [HTX.out]; simp [pword])
          obtain ⟨A5, n5, c5, rfl⟩ := own_open hO
          have HK := Lib.hid hK
          clear hfin hO hB hK HS
          go_wp2
          go_ret
          exact ⟨rfl, HK.out⟩
end Go.Proofs.YtplommmegkdhdaaGreatDoor
