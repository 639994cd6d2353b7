/- Contracts of functions and plain laws, joined: Psa. -/
import Derived.Test.YtplommmegkdhdaaGreatDoorMb24
/- What the law's head needs; the walk of its region 6. -/
namespace Go.Proofs.YtplommmegkdhdaaGreatDoor
open Go.RowKit

def Pat.sp : Pat := ⟨5, [0, 2], Cla.nul, 10⟩
def Con.saA : Con := { Con.sam with cl := [{ Cla.duty with aft := 10 }, Cla.duty, { Cla.duty with aft := 10 }] }
def Con.saB : Con := { Con.sam with cl := [Cla.duty, { Cla.duty with waived := true }, Cla.duty] }
def Con.saD : Con := { Con.sam with cl := [Cla.duty, Cla.duty, Cla.duty, Cla.duty] }
theorem sa1 : Con.sam.apE .sp = 0 ∧ Con.sam.apC .sp = Con.saA := by decide
theorem sa2 : Con.sam.apE (.wai 1) = 0 ∧ Con.sam.apC (.wai 1) = Con.saB := by decide
theorem sa3 : Con.sam.apE (.wai 3) = 1 ∧ Con.sam.apC (.wai 3) = Con.zero := by decide
theorem sa4 : Con.sam.apE (.addq Cla.duty) = 0 ∧ Con.sam.apC (.addq Cla.duty) = Con.saD := by decide
theorem dig1 {n : Nat} (h : n < 10) : Lib.decDigits n = [UInt8.ofNat (48 + n)] := by rw [Lib.decDigits, dif_pos h]
theorem sp_text : Pat.sp.text = [112, 97, 116, 99, 104, 32, 53, 32, 49, 48, 32, 50, 32, 48, 32, 50, 32, 48, 32, 48, 32, 48, 32, 48, 32, 48, 32, 48, 32, 48, 32, 48, 32, 48, 32, 48, 32, 48, 32, 48, 32, 48, 32, 48, 32, 48, 32, 48] := by
  have w0 : wnum 0 = [32, 48] := by unfold wnum Lib.itoa; rw [if_neg (by decide)]; show 32 :: Lib.decDigits 0 = _; rw [dig1 (by decide)]; rfl
  have w2 : wnum 2 = [32, 50] := by unfold wnum Lib.itoa; rw [if_neg (by decide)]; show 32 :: Lib.decDigits 2 = _; rw [dig1 (by decide)]; rfl
  have w5 : wnum 5 = [32, 53] := by unfold wnum Lib.itoa; rw [if_neg (by decide)]; show 32 :: Lib.decDigits 5 = _; rw [dig1 (by decide)]; rfl
  have w10 : wnum 10 = [32, 49, 48] := by
    unfold wnum Lib.itoa
    rw [if_neg (by decide)]
    show 32 :: Lib.decDigits 10 = _
    rw [Lib.decDigits, dif_neg (by decide), dig1 (show 10 / 10 < 10 by decide)]
    rfl
  have hn : Pat.sp.nums = [5, 10, 2, 0, 2, 0, 0, 0, 0, 0, 0, 0, 0, 0, 0, 0, 0, 0, 0, 0, 0] := rfl
  unfold Pat.text
  rw [if_pos (by decide), hn]
  simp only [List.flatMap_cons, List.flatMap_nil, w0, w2, w5, w10]
  rfl
theorem sp_64 : ∀ n ∈ Pat.sp.nums, I64 n := by
  have hn : Pat.sp.nums = [5, 10, 2, 0, 2, 0, 0, 0, 0, 0, 0, 0, 0, 0, 0, 0, 0, 0, 0, 0, 0] := rfl
  rw [hn]
  decide
theorem sp_parse : parseP [112, 97, 116, 99, 104, 32, 53, 32, 49, 48, 32, 50, 32, 48, 32, 50, 32, 48, 32, 48, 32, 48, 32, 48, 32, 48, 32, 48, 32, 48, 32, 48, 32, 48, 32, 48, 32, 48, 32, 48, 32, 48, 32, 48, 32, 48, 32, 48] = some .sp := by rw [← sp_text]; exact parse_text (by decide) (by decide) sp_64
theorem two_sorted {l : List Int} (hs : l.Pairwise (· < ·)) (hm : ∀ x, x ∈ l ↔ x ∈ Con.sam.tch .sp) : l = [0, 2] := by
  have hm' : ∀ x, x ∈ l ↔ x = 0 ∨ x = 2 := fun x => by rw [hm x]; simp [Con.tch, Pat.sp, Cla.nul]
  match l, hs, hm' with
  | [], _, h => exact absurd ((h 0).2 (.inl rfl)) (by simp)
  | a :: r, hs, h =>
    rw [List.pairwise_cons] at hs
    have ha := (h a).1 (List.mem_cons_self ..)
    have h0 := (h 0).2 (.inl rfl)
    have ea : a = 0 := by
      rcases List.mem_cons.1 h0 with e | e
      · exact e.symm
      · have := hs.1 0 e; omega
    subst ea
    have h2 : (2 : Int) ∈ r := by
      rcases List.mem_cons.1 ((h 2).2 (.inr rfl)) with e | e
      · cases e
      · exact e
    match r, hs, h2, h with
    | [], _, h2, _ => cases h2
    | b :: s, hs, h2, h =>
      have hb := (h b).1 (by simp)
      have hb0 := hs.1 b (List.mem_cons_self ..)
      have eb : b = 2 := by omega
      subst eb
      have hs2 := (List.pairwise_cons.1 hs.2).1
      cases s with
      | nil => rfl
      | cons c s =>
        have hc := (h c).1 (by simp)
        have := hs2 c (List.mem_cons_self ..)
        have := hs.1 c (by simp)
        omega
theorem con_cells {w : World} {c : Con} {m : Cm} (h : Cont w c m) (h0 : 0 < c.cl.length) : ∃ kb ko, m.k = some ⟨kb, ko, none⟩ ∧ kb < w.heap.size ∧ ∀ i x, m.ks[i]? = some x → ∀ j v, (eK x)[j]? = some v → w.cell? ⟨kb, ko + i * 16 + j, none⟩ = some v := by
  have hl : m.ks.length = c.cl.length := by rw [← h.e, List.length_map]
  obtain ⟨b, o, e, hb, _⟩ := segAt (k := 0) h.k (List.getElem?_eq_getElem (by omega))
  refine ⟨b, o, e, hb, fun i x hx j v hv => ?_⟩
  obtain ⟨b', o', e', _, hc⟩ := segAt h.k hx
  rw [e] at e'
  injection e' with e'
  injection e' with e1 e2
  rw [e1, e2]
  exact hc j v hv
theorem con_cell {w : World} {c : Con} {m : Cm} (h : Cont w c m) {kb ko : Nat} (hk : ∀ i x, m.ks[i]? = some x → ∀ j v, (eK x)[j]? = some v → w.cell? ⟨kb, ko + i * 16 + j, none⟩ = some v) {i : Nat} {k : Cla} (hi : c.cl[i]? = some k) :
    w.cell? ⟨kb, ko + i * 16 + 5, none⟩ = some (.int .i64 k.aft) ∧ w.cell? ⟨kb, ko + i * 16 + 15, none⟩ = some (.bool k.waived) := by
  obtain ⟨x, hx, ex⟩ := km_at h.e hi
  subst ex
  exact ⟨hk i x hx 5 _ rfl, hk i x hx 15 _ rfl⟩
theorem range_then {w w' : World} {b o : Nat} {l : List Value} (h : w.rangeAt b o l) (hb : Below w.heap.size w w') (hl : b < w.heap.size) : w'.rangeAt b o l := fun j v hv => (hb.cell (p := ⟨b, o + j, none⟩) hl).trans (h j v hv)
set_option maxRecDepth 100000 in
set_option maxHeartbeats 6400000 in
theorem head24_r6 {Q : Exit → Act → World → Prop} (hQ : PanOk Q) (m : Cm) (bu1 kb ko : Nat) (x0A : Option Addr) (x0c : Nat) (u5 : World) {x0 x2 x3 x4 x5 x6 x7 x8 x9 x10 x11 x12 x13 x14 x15 x16 x17 x18 x19 x20 x21 x22 x23 x24 x25 x26 x27 x28 x29 x30 x31 x32 x33 x34 x35 x36 x37 x38 x39 x40 x41 x42 x43 x44 x45 x46 x47 x48 x49 x50 x51 x52 x53 x54 x55 x56 x57 x58 x59 x60 x61 x62 x63 x64 x65 x66 x67 x68 x69 x70 x71 x72 x73 x74 x75 x76 x77 x78 x79 x80 x81 x82 x83 x84 x85 x86 x87 x88 x89 x90 x91 x92 x93 x94 x95 x96 x97 x98 x99 x100 x101 x102 x103 x104 x105 x106 x107 x108 x109 x110 x111 x112 x113 x114 x115 x116 x117 x118 x119 x120 x121 x122 x123 x124 x125 x126 x127 x128 x129 x130 x131 x132 x133 x134 x135 x136 x137 x138 x139 x140 x141 x142 x143 x144 x145 x146 x147 x148 x149 x150 x151 : Value} (HG : Hid (Blk u5 bu1 27 (coA Con.sam m))) (HEK : Hid (m.k = some ⟨kb, ko, none⟩)) (HRG : Hid (u5.rangeAt kb ko [.int .i64 1, .int .i64 0, .int .i64 0, .int .i64 1, .slice x0A 0 x0c, .int .i64 2, .int .i64 0, .bool false, .bool false, .int .i64 (-1), .int .i64 (-1), .int .i64 0, .int .i64 1, .int .i64 (-1), .int .i64 (-1), .bool false] ∧ kb < u5.heap.size)) (HC : Hid (Cont u5 Con.sam m))
    (hdone : Hid (∀ (v9 v10 v39 v40 v41 v42 v43 v44 v45 v46 v47 v48 : Value) (W : World), (∃ q md, v9 = .pointer (some ⟨q, 0, none⟩) ∧ v10 = .int .i64 0 ∧ Blk W q 27 (coA Con.saD md) ∧ Cont W Con.saD md ∧ Below u5.heap.size u5 W) → Q .normal ⟨#[x0, .pointer (some ⟨bu1, 0, none⟩), x2, x3, x4, x5, x6, x7, x8, v9, v10, x11, x12, x13, x14, x15, x16, x17, x18, x19, x20, x21, x22, x23, x24, x25, x26, x27, x28, x29, x30, x31, x32, x33, x34, x35, x36, x37, x38, v39, v40, v41, v42, v43, v44, v45, v46, v47, v48, x49, x50, x51, x52, x53, x54, x55, x56, x57, x58, x59, x60, x61, x62, x63, x64, x65, x66, x67, x68, x69, x70, x71, x72, x73, x74, x75, x76, x77, x78, x79, x80, x81, x82, x83, x84, x85, x86, x87, x88, x89, x90, x91, x92, x93, x94, x95, x96, x97, x98, x99, x100, x101, x102, x103, x104, x105, x106, x107, x108, x109, x110, x111, x112, x113, x114, x115, x116, x117, x118, x119, x120, x121, x122, x123, x124, x125, x126, x127, x128, x129, x130, x131, x132, x133, x134, x135, x136, x137, x138, x139, x140, x141, x142, x143, x144, x145, x146, x147, x148, x149, x150, x151], []⟩ W)) :
    (atR Tryz.f9 6).wp Tryz.prog Q ⟨#[x0, .pointer (some ⟨bu1, 0, none⟩), x2, x3, x4, x5, x6, x7, x8, x9, x10, x11, x12, x13, x14, x15, x16, x17, x18, x19, x20, x21, x22, x23, x24, x25, x26, x27, x28, x29, x30, x31, x32, x33, x34, x35, x36, x37, x38, x39, x40, x41, x42, x43, x44, x45, x46, x47, x48, x49, x50, x51, x52, x53, x54, x55, x56, x57, x58, x59, x60, x61, x62, x63, x64, x65, x66, x67, x68, x69, x70, x71, x72, x73, x74, x75, x76, x77, x78, x79, x80, x81, x82, x83, x84, x85, x86, x87, x88, x89, x90, x91, x92, x93, x94, x95, x96, x97, x98, x99, x100, x101, x102, x103, x104, x105, x106, x107, x108, x109, x110, x111, x112, x113, x114, x115, x116, x117, x118, x119, x120, x121, x122, x123, x124, x125, x126, x127, x128, x129, x130, x131, x132, x133, x134, x135, x136, x137, x138, x139, x140, x141, x142, x143, x144, x145, x146, x147, x148, x149, x150, x151], []⟩ u5 := by
  conv => { arg 2; whnf }
  have HA4 : Hid (∀ W m A k, Cont W Con.sam m → Calls Tryz.prog 12 #[.agg (coA Con.sam m), .agg #[.int .i64 1, .slice none 0 0, .int .i64 1, .int .i64 0, .int .i64 0, .int .i64 1, .slice A 0 k, .int .i64 2, .int .i64 0, .bool false, .bool false, .int .i64 (-1), .int .i64 (-1), .int .i64 0, .int .i64 1, .int .i64 (-1), .int .i64 (-1), .bool false, .int .i64 0]] W fun e w' => (∃ m', e = .returned (.tuple #[.agg (coA Con.saD m'), .int .i64 0]) ∧ Cont w' Con.saD m' ∧ Off (W.heap.size ≤ ·) Con.saD m') ∧ Below W.heap.size W w') := fun W m A k h => apply_off Con.sam Con.saD m (.addq Cla.duty) ⟨none, 0, A, k⟩ 0 W h (patM_add (x := ⟨Cla.duty, A, k⟩) ⟨fun k x hx => (by cases hx), by show I64 0 ∧ I64 1; decide, Nat.zero_le _, Nat.zero_le _⟩) sa4.1 sa4.2
  refine wp_region_hb (fun w' => Hid (Below u5.heap.size u5 w')) [0, 1, 2, 3, 4, 5, 6, 7, 8, 9, 10, 11] [12] (by kernel_rfl) (by kernel_rfl) hQ (Lib.hid (Below.drew (Below.refl _ _))) (fun hdir hsel hpan hHeld => ?_)
  refine wpHB_tk hdir hsel hpan (i := 0) (oi := ⟨some 40, _, _, _, _, _⟩) rfl (by kernel_rfl) (yieldsIf_row (by rfl) 27 _ rfl bu1 rfl 27 _ (fun w hw => (HG.out.then_ hw.out)) ⟨_, Tryz.underlying27⟩ (by kernel_rfl)) hHeld ?_
  refine wpHB_tk hdir hsel hpan (i := 1) (oi := ⟨some 41, _, _, _, _, _⟩) rfl (by kernel_rfl) (Or.inl ⟨by rfl, fun _ _ => by rfl⟩) hHeld ?_
  refine wpHB_tk hdir hsel hpan (i := 2) (oi := ⟨some 42, _, _, _, _, _⟩) (v := .slice (some ⟨kb, ko, none⟩) 3 m.kc) rfl (by kernel_rfl) (Or.inl ⟨by rfl, fun w hw => by have hc := (show w.cell? ⟨bu1, 4, none⟩ = some (.slice (some ⟨kb, ko, none⟩) 3 m.kc) by rw [← HEK.out]; exact (HG.out.then_ hw.out).cell 4); go_simp⟩) hHeld ?_
  refine wpHB_tk hdir hsel hpan (i := 3) (oi := ⟨some 43, _, _, _, _, _⟩) (v := .pointer (some ⟨kb, ko, none⟩)) rfl (by kernel_rfl) (Or.inl ⟨by rfl, fun w hw => by go_simp⟩) hHeld ?_
  refine wpHB_tk hdir hsel hpan (i := 4) (oi := ⟨some 44, _, _, _, _, _⟩) rfl (by kernel_rfl) (yieldsIf_load_mid (by rfl) 32 _ rfl kb _ rfl [.int .i64 1, .int .i64 0, .int .i64 0, .int .i64 1, .slice x0A 0 x0c, .int .i64 2, .int .i64 0, .bool false, .bool false, .int .i64 (-1), .int .i64 (-1), .int .i64 0, .int .i64 1, .int .i64 (-1), .int .i64 (-1), .bool false] _ (fun w hw => (range_then HRG.out.1 hw.out HRG.out.2)) Tryz.underlying32 rfl (by kernel_rfl)) hHeld ?_
  refine wpHB_tk hdir hsel hpan (i := 5) (oi := ⟨some 45, _, _, _, _, _⟩) (v := .agg #[.int .i64 1, .slice none 0 0, .int .i64 1, .int .i64 0, .int .i64 0, .int .i64 1, .slice x0A 0 x0c, .int .i64 2, .int .i64 0, .bool false, .bool false, .int .i64 (-1), .int .i64 (-1), .int .i64 0, .int .i64 1, .int .i64 (-1), .int .i64 (-1), .bool false, .int .i64 0]) rfl (by kernel_rfl) (Or.inl ⟨by rfl, fun w hw => by go_simp⟩) hHeld ?_
  try simp only [Act.put, List.setIfInBounds_toArray, List.set_cons_zero, List.set_cons_succ]
  refine wpHB_ready (rs := [6, 10]) (by kernel_rfl) (by simp) ?_
  refine AllHB.cons (by kernel_rfl) (o := ⟨some 46, _, _, _, _, _⟩) rfl (fun K hK => ?_) ?_
  · go_simp
    (go_at_call 12; (with_reducible refine (HA4.out _ m x0A x0c (HC.out.then_ hHeld.out)).mono ?_); rintro e wa ⟨⟨m2, rfl, hca, hof⟩, hba⟩)
    try (have ho := hof.mono fun b hb => Nat.ne_of_gt (Nat.lt_of_lt_of_le gp.lt hb))
    try (replace gp := gp.then_ hba)
    clear hof
    refine hK.out _ _ (Lib.hid (below_then hHeld.out hba)) (fun hHeld => ?_)
    clear hK K
    try simp only [Act.put, List.setIfInBounds_toArray, List.set_cons_zero, List.set_cons_succ]
    refine wpHB_tk hdir hsel hpan (i := 7) (oi := ⟨some 39, _, _, _, _, _⟩) rfl (by kernel_rfl) (Or.inl ⟨by rfl, fun _ _ => by rfl⟩) hHeld ?_
    refine wpHB_tk hdir hsel hpan (i := 8) (oi := ⟨some 47, _, _, _, _, _⟩) rfl (by kernel_rfl) (Or.inl ⟨by rfl, fun _ _ => by rfl⟩) hHeld ?_
    refine wpHB_tk hdir hsel hpan (i := 9) (oi := ⟨some 48, _, _, _, _, _⟩) rfl (by kernel_rfl) (Or.inl ⟨by rfl, fun _ _ => by rfl⟩) hHeld ?_
    try simp only [Act.put, List.setIfInBounds_toArray, List.set_cons_zero, List.set_cons_succ]
    refine wpHB_ready (rs := [10]) (by kernel_rfl) (by simp) ?_
    refine AllHB.cons (by kernel_rfl) (o := ⟨some 9, _, _, _, _, _⟩) rfl (fun K hK => ?_) AllHB.nil
    go_simp
    have lla := hHeld.out.size
    refine name_k ?_
    intro Vp hVp
    obtain ⟨gp, hbp⟩ : _ ∧ _ := (by first | exact con_new hVp | exact con_new (W := u5.drew) hVp)
    try (have ho := hca.off.mono fun b hb => Nat.ne_of_lt hb)
    try (replace hca := hca.then_ hbp)
    clear hVp
    refine hK.out _ _ (Lib.hid (below_then hHeld.out hbp)) (fun hHeld => ?_)
    clear hK K
    try simp only [Act.put, List.setIfInBounds_toArray, List.set_cons_zero, List.set_cons_succ]
    refine wpHB_ready (rs := [11]) (by kernel_rfl) (by simp) ?_
    refine AllHB.cons (by kernel_rfl) (o := ⟨none, _, _, _, _, _⟩) rfl (fun K hK => ?_) AllHB.nil
    rw [if_pos (by rfl)]
    refine wp_store_all 27 _ _ rfl _ 27 [] coZ.toList [] (coA Con.saD m2).toList rfl rfl gp rfl (by kernel_rfl) (by simp [Value.oneCell']) ?_
    intro w8 g8 U8
    refine hK.out _ _ (Lib.hid (hHeld.out.trans (U8.b _ lla))) (fun hHeld => ?_)
    clear hK K
    try simp only [Act.put]
    refine wpHB_tail (by kernel_rfl) (by kernel_rfl) ?_
    clear hdir hsel hpan
    simp only [opsAt, List.getElem?_toArray, List.getElem?_cons_succ, List.getElem?_cons_zero, Option.toList_some, List.cons_append, List.nil_append]
    go_wp2
    exact hdone.out _ _ _ _ _ _ _ _ _ _ _ _ _ ⟨_, m2, rfl, rfl, g8, hca.upd U8 ho, hHeld.out⟩
  refine AllHB.cons (by kernel_rfl) (o := ⟨some 9, _, _, _, _, _⟩) rfl (fun K hK => ?_) ?_
  · go_simp
    have lla := hHeld.out.size
    refine name_k ?_
    intro Vp hVp
    obtain ⟨gp, hbp⟩ : _ ∧ _ := (by first | exact con_new hVp | exact con_new (W := u5.drew) hVp)
    try (have ho := hca.off.mono fun b hb => Nat.ne_of_lt hb)
    try (replace hca := hca.then_ hbp)
    clear hVp
    refine hK.out _ _ (Lib.hid (below_then hHeld.out hbp)) (fun hHeld => ?_)
    clear hK K
    try simp only [Act.put, List.setIfInBounds_toArray, List.set_cons_zero, List.set_cons_succ]
    refine wpHB_ready (rs := [6]) (by kernel_rfl) (by simp) ?_
    refine AllHB.cons (by kernel_rfl) (o := ⟨some 46, _, _, _, _, _⟩) rfl (fun K hK => ?_) AllHB.nil
    go_simp
    (go_at_call 12; (with_reducible refine (HA4.out _ m x0A x0c (HC.out.then_ hHeld.out)).mono ?_); rintro e wa ⟨⟨m2, rfl, hca, hof⟩, hba⟩)
    try (have ho := hof.mono fun b hb => Nat.ne_of_gt (Nat.lt_of_lt_of_le gp.lt hb))
    try (replace gp := gp.then_ hba)
    clear hof
    refine hK.out _ _ (Lib.hid (below_then hHeld.out hba)) (fun hHeld => ?_)
    clear hK K
    try simp only [Act.put, List.setIfInBounds_toArray, List.set_cons_zero, List.set_cons_succ]
    refine wpHB_tk hdir hsel hpan (i := 7) (oi := ⟨some 39, _, _, _, _, _⟩) rfl (by kernel_rfl) (Or.inl ⟨by rfl, fun _ _ => by rfl⟩) hHeld ?_
    refine wpHB_tk hdir hsel hpan (i := 8) (oi := ⟨some 47, _, _, _, _, _⟩) rfl (by kernel_rfl) (Or.inl ⟨by rfl, fun _ _ => by rfl⟩) hHeld ?_
    refine wpHB_tk hdir hsel hpan (i := 9) (oi := ⟨some 48, _, _, _, _, _⟩) rfl (by kernel_rfl) (Or.inl ⟨by rfl, fun _ _ => by rfl⟩) hHeld ?_
    try simp only [Act.put, List.setIfInBounds_toArray, List.set_cons_zero, List.set_cons_succ]
    refine wpHB_ready (rs := [11]) (by kernel_rfl) (by simp) ?_
    refine AllHB.cons (by kernel_rfl) (o := ⟨none, _, _, _, _, _⟩) rfl (fun K hK => ?_) AllHB.nil
    rw [if_pos (by rfl)]
    refine wp_store_all 27 _ _ rfl _ 27 [] coZ.toList [] (coA Con.saD m2).toList rfl rfl gp rfl (by kernel_rfl) (by simp [Value.oneCell']) ?_
    intro w8 g8 U8
    refine hK.out _ _ (Lib.hid (hHeld.out.trans (U8.b _ lla))) (fun hHeld => ?_)
    clear hK K
    try simp only [Act.put]
    refine wpHB_tail (by kernel_rfl) (by kernel_rfl) ?_
    clear hdir hsel hpan
    simp only [opsAt, List.getElem?_toArray, List.getElem?_cons_succ, List.getElem?_cons_zero, Option.toList_some, List.cons_append, List.nil_append]
    go_wp2
    exact hdone.out _ _ _ _ _ _ _ _ _ _ _ _ _ ⟨_, m2, rfl, rfl, g8, hca.upd U8 ho, hHeld.out⟩
  exact AllHB.nil
set_option maxRecDepth 100000 in
set_option maxHeartbeats 6400000 in
theorem head24_r3 {Q : Exit → Act → World → Prop} (m : Cm) (pm : Pm) (b1 bs : Nat) (W0 : World) {x0 x3 x4 x5 x6 x7 x8 x9 x10 x11 x12 x13 x14 x15 x16 x17 x18 x19 x20 x21 x22 x23 x24 x25 x26 x27 x28 x29 x30 x31 x32 x33 x34 x35 x36 x37 x38 x39 x40 x41 x42 x43 x44 x45 x46 x47 x48 x49 x50 x51 x52 x53 x54 x55 x56 x57 x58 x59 x60 x61 x62 x63 x64 x65 x66 x67 x68 x69 x70 x71 x72 x73 x74 x75 x76 x77 x78 x79 x80 x81 x82 x83 x84 x85 x86 x87 x88 x89 x90 x91 x92 x93 x94 x95 x96 x97 x98 x99 x100 x101 x102 x103 x104 x105 x106 x107 x108 x109 x110 x111 x112 x113 x114 x115 x116 x117 x118 x119 x120 x121 x122 x123 x124 x125 x126 x127 x128 x129 x130 x131 x132 x133 x134 x135 x136 x137 x138 x139 x140 x141 x142 x143 x144 x145 x146 x147 x148 x149 x150 x151 : Value} (HG : Hid (Blk W0 b1 27 (coA Con.sam m))) (HC : Hid (Cont W0 Con.sam m)) (HS : Hid (Blk W0 bs 34 (pL Pat.sp pm))) (HP : Hid (PatM W0 Pat.sp pm))
    (hdone : Hid (∀ (v3 v4 v19 v20 v21 v22 v23 v24 : Value) (W : World), (∃ q m', v3 = .pointer (some ⟨q, 0, none⟩) ∧ v4 = .int .i64 0 ∧ Blk W q 27 (coA Con.saA m') ∧ Cont W Con.saA m' ∧ Below W0.heap.size W0 W) → Q .normal ⟨#[x0, .pointer (some ⟨b1, 0, none⟩), .pointer (some ⟨bs, 0, none⟩), v3, v4, x5, x6, x7, x8, x9, x10, x11, x12, x13, x14, x15, x16, x17, x18, v19, v20, v21, v22, v23, v24, x25, x26, x27, x28, x29, x30, x31, x32, x33, x34, x35, x36, x37, x38, x39, x40, x41, x42, x43, x44, x45, x46, x47, x48, x49, x50, x51, x52, x53, x54, x55, x56, x57, x58, x59, x60, x61, x62, x63, x64, x65, x66, x67, x68, x69, x70, x71, x72, x73, x74, x75, x76, x77, x78, x79, x80, x81, x82, x83, x84, x85, x86, x87, x88, x89, x90, x91, x92, x93, x94, x95, x96, x97, x98, x99, x100, x101, x102, x103, x104, x105, x106, x107, x108, x109, x110, x111, x112, x113, x114, x115, x116, x117, x118, x119, x120, x121, x122, x123, x124, x125, x126, x127, x128, x129, x130, x131, x132, x133, x134, x135, x136, x137, x138, x139, x140, x141, x142, x143, x144, x145, x146, x147, x148, x149, x150, x151], []⟩ W)) :
    (atR Tryz.f9 3).wp Tryz.prog Q ⟨#[x0, .pointer (some ⟨b1, 0, none⟩), .pointer (some ⟨bs, 0, none⟩), x3, x4, x5, x6, x7, x8, x9, x10, x11, x12, x13, x14, x15, x16, x17, x18, x19, x20, x21, x22, x23, x24, x25, x26, x27, x28, x29, x30, x31, x32, x33, x34, x35, x36, x37, x38, x39, x40, x41, x42, x43, x44, x45, x46, x47, x48, x49, x50, x51, x52, x53, x54, x55, x56, x57, x58, x59, x60, x61, x62, x63, x64, x65, x66, x67, x68, x69, x70, x71, x72, x73, x74, x75, x76, x77, x78, x79, x80, x81, x82, x83, x84, x85, x86, x87, x88, x89, x90, x91, x92, x93, x94, x95, x96, x97, x98, x99, x100, x101, x102, x103, x104, x105, x106, x107, x108, x109, x110, x111, x112, x113, x114, x115, x116, x117, x118, x119, x120, x121, x122, x123, x124, x125, x126, x127, x128, x129, x130, x131, x132, x133, x134, x135, x136, x137, x138, x139, x140, x141, x142, x143, x144, x145, x146, x147, x148, x149, x150, x151], []⟩ W0 := by
  conv => { arg 2; whnf }
  dsimp only
  have HA1 := Lib.hid (apply_to Con.sam Con.saA m .sp pm 0 W0 HC.out HP.out sa1.1 sa1.2)
  go_wp2_with (first | (refine wpList_row_w (by rfl) 27 _ rfl b1 rfl 27 _ HG.out ⟨_, Tryz.underlying27⟩ (by kernel_rfl) ?_; simp only [Act.put, List.setIfInBounds_toArray, List.set_cons_succ, List.set_cons_zero]) | (refine wpList_row_w (by rfl) 34 _ rfl bs rfl 34 _ HS.out ⟨_, Tryz.underlying34⟩ (by kernel_rfl) ?_; simp only [Act.put, List.setIfInBounds_toArray, List.set_cons_succ, List.set_cons_zero]) | (go_at_call 12; (with_reducible refine HA1.out.mono ?_); rintro e w3 ⟨⟨m2, rfl, hca⟩, hbw⟩) | (refine wpList_store_all rfl 27 _ _ rfl w3.heap.size 27 [] coZ.toList [] (coA Con.saA m2).toList rfl rfl (Blk.new _ _ _) rfl (by kernel_rfl) (by simp [Value.oneCell']) ?_; intro w9 g9 U9))
  have hs : Below w3.heap.size w3 w9 := (wa1 _ _).trans (U9.b _ (Nat.le_refl _))
  exact hdone.out _ _ _ _ _ _ _ _ _ ⟨_, m2, rfl, rfl, g9, hca.then_ hs, below_then hbw hs⟩
set_option maxRecDepth 100000 in
set_option maxHeartbeats 6400000 in
theorem head24_r4 {Q : Exit → Act → World → Prop} (m : Cm) (b1 : Nat) (W0 : World) {x0 x2 x3 x4 x5 x6 x7 x8 x9 x10 x11 x12 x13 x14 x15 x16 x17 x18 x19 x20 x21 x22 x23 x24 x25 x26 x27 x28 x29 x30 x31 x32 x33 x34 x35 x36 x37 x38 x39 x40 x41 x42 x43 x44 x45 x46 x47 x48 x49 x50 x51 x52 x53 x54 x55 x56 x57 x58 x59 x60 x61 x62 x63 x64 x65 x66 x67 x68 x69 x70 x71 x72 x73 x74 x75 x76 x77 x78 x79 x80 x81 x82 x83 x84 x85 x86 x87 x88 x89 x90 x91 x92 x93 x94 x95 x96 x97 x98 x99 x100 x101 x102 x103 x104 x105 x106 x107 x108 x109 x110 x111 x112 x113 x114 x115 x116 x117 x118 x119 x120 x121 x122 x123 x124 x125 x126 x127 x128 x129 x130 x131 x132 x133 x134 x135 x136 x137 x138 x139 x140 x141 x142 x143 x144 x145 x146 x147 x148 x149 x150 x151 : Value} (HG : Hid (Blk W0 b1 27 (coA Con.sam m))) (HC : Hid (Cont W0 Con.sam m))
    (hdone : Hid (∀ (v5 v6 v25 v26 v27 v28 v29 v30 v31 : Value) (W : World), (∃ q m', v5 = .pointer (some ⟨q, 0, none⟩) ∧ v6 = .int .i64 0 ∧ Blk W q 27 (coA Con.saB m') ∧ Cont W Con.saB m' ∧ Below W0.heap.size W0 W) → Q .normal ⟨#[x0, .pointer (some ⟨b1, 0, none⟩), x2, x3, x4, v5, v6, x7, x8, x9, x10, x11, x12, x13, x14, x15, x16, x17, x18, x19, x20, x21, x22, x23, x24, v25, v26, v27, v28, v29, v30, v31, x32, x33, x34, x35, x36, x37, x38, x39, x40, x41, x42, x43, x44, x45, x46, x47, x48, x49, x50, x51, x52, x53, x54, x55, x56, x57, x58, x59, x60, x61, x62, x63, x64, x65, x66, x67, x68, x69, x70, x71, x72, x73, x74, x75, x76, x77, x78, x79, x80, x81, x82, x83, x84, x85, x86, x87, x88, x89, x90, x91, x92, x93, x94, x95, x96, x97, x98, x99, x100, x101, x102, x103, x104, x105, x106, x107, x108, x109, x110, x111, x112, x113, x114, x115, x116, x117, x118, x119, x120, x121, x122, x123, x124, x125, x126, x127, x128, x129, x130, x131, x132, x133, x134, x135, x136, x137, x138, x139, x140, x141, x142, x143, x144, x145, x146, x147, x148, x149, x150, x151], []⟩ W)) :
    (atR Tryz.f9 4).wp Tryz.prog Q ⟨#[x0, .pointer (some ⟨b1, 0, none⟩), x2, x3, x4, x5, x6, x7, x8, x9, x10, x11, x12, x13, x14, x15, x16, x17, x18, x19, x20, x21, x22, x23, x24, x25, x26, x27, x28, x29, x30, x31, x32, x33, x34, x35, x36, x37, x38, x39, x40, x41, x42, x43, x44, x45, x46, x47, x48, x49, x50, x51, x52, x53, x54, x55, x56, x57, x58, x59, x60, x61, x62, x63, x64, x65, x66, x67, x68, x69, x70, x71, x72, x73, x74, x75, x76, x77, x78, x79, x80, x81, x82, x83, x84, x85, x86, x87, x88, x89, x90, x91, x92, x93, x94, x95, x96, x97, x98, x99, x100, x101, x102, x103, x104, x105, x106, x107, x108, x109, x110, x111, x112, x113, x114, x115, x116, x117, x118, x119, x120, x121, x122, x123, x124, x125, x126, x127, x128, x129, x130, x131, x132, x133, x134, x135, x136, x137, x138, x139, x140, x141, x142, x143, x144, x145, x146, x147, x148, x149, x150, x151], []⟩ W0 := by
  conv => { arg 2; whnf }
  dsimp only
  have HA2 : Hid (∀ W b, Cont W Con.sam m → Blk W b 3 #[.int .i64 1] → Calls Tryz.prog 12 #[.agg (coA Con.sam m), .agg #[.int .i64 3, .slice (some ⟨b, 0, none⟩) 1 1, .int .i64 0, .int .i64 0, .int .i64 0, .int .i64 0, .slice none 0 0, .int .i64 0, .int .i64 0, .bool false, .bool false, .int .i64 0, .int .i64 0, .int .i64 0, .int .i64 0, .int .i64 0, .int .i64 0, .bool false, .int .i64 0]] W fun e w' => (∃ m', e = .returned (.tuple #[.agg (coA Con.saB m'), .int .i64 0]) ∧ Cont w' Con.saB m') ∧ Below W.heap.size W w') := fun W b h hb => apply_to Con.sam Con.saB m (.wai 1) ⟨some ⟨b, 0, none⟩, 1, none, 0⟩ 0 W h (patM_one hb rfl rfl) sa2.1 sa2.2
  go_wp2_with (first | (refine wpList_row_w (by rfl) 27 _ rfl b1 rfl 27 _ HG.out ⟨_, Tryz.underlying27⟩ (by kernel_rfl) ?_; simp only [Act.put, List.setIfInBounds_toArray, List.set_cons_succ, List.set_cons_zero]) | (go_at_call 12; (with_reducible refine (HA2.out _ _ (HC.out.then_ (wa1 _ _)) (Blk.new _ _ _)).mono ?_); rintro e w3 ⟨⟨m2, rfl, hca⟩, hbw⟩) | (refine wpList_store_all rfl 27 _ _ rfl w3.heap.size 27 [] coZ.toList [] (coA Con.saB m2).toList rfl rfl (Blk.new _ _ _) rfl (by kernel_rfl) (by simp [Value.oneCell']) ?_; intro w9 g9 U9))
  have hs : Below w3.heap.size w3 w9 := (wa1 _ _).trans (U9.b _ (Nat.le_refl _))
  exact hdone.out _ _ _ _ _ _ _ _ _ _ ⟨_, m2, rfl, rfl, g9, hca.then_ hs, below_then (wa1 _ _) (below_then hbw hs)⟩
set_option maxRecDepth 100000 in
set_option maxHeartbeats 6400000 in
theorem head24_r5 {Q : Exit → Act → World → Prop} (m : Cm) (b1 : Nat) (W0 : World) {x0 x2 x3 x4 x5 x6 x7 x8 x9 x10 x11 x12 x13 x14 x15 x16 x17 x18 x19 x20 x21 x22 x23 x24 x25 x26 x27 x28 x29 x30 x31 x32 x33 x34 x35 x36 x37 x38 x39 x40 x41 x42 x43 x44 x45 x46 x47 x48 x49 x50 x51 x52 x53 x54 x55 x56 x57 x58 x59 x60 x61 x62 x63 x64 x65 x66 x67 x68 x69 x70 x71 x72 x73 x74 x75 x76 x77 x78 x79 x80 x81 x82 x83 x84 x85 x86 x87 x88 x89 x90 x91 x92 x93 x94 x95 x96 x97 x98 x99 x100 x101 x102 x103 x104 x105 x106 x107 x108 x109 x110 x111 x112 x113 x114 x115 x116 x117 x118 x119 x120 x121 x122 x123 x124 x125 x126 x127 x128 x129 x130 x131 x132 x133 x134 x135 x136 x137 x138 x139 x140 x141 x142 x143 x144 x145 x146 x147 x148 x149 x150 x151 : Value} (HG : Hid (Blk W0 b1 27 (coA Con.sam m))) (HC : Hid (Cont W0 Con.sam m))
    (hdone : Hid (∀ (v7 v8 v32 v33 v34 v35 v36 v37 v38 : Value) (W : World), (∃ q m', v7 = .pointer (some ⟨q, 0, none⟩) ∧ v8 = .int .i64 1 ∧ Blk W q 27 (coA Con.zero m') ∧ Cont W Con.zero m' ∧ Below W0.heap.size W0 W) → Q .normal ⟨#[x0, .pointer (some ⟨b1, 0, none⟩), x2, x3, x4, x5, x6, v7, v8, x9, x10, x11, x12, x13, x14, x15, x16, x17, x18, x19, x20, x21, x22, x23, x24, x25, x26, x27, x28, x29, x30, x31, v32, v33, v34, v35, v36, v37, v38, x39, x40, x41, x42, x43, x44, x45, x46, x47, x48, x49, x50, x51, x52, x53, x54, x55, x56, x57, x58, x59, x60, x61, x62, x63, x64, x65, x66, x67, x68, x69, x70, x71, x72, x73, x74, x75, x76, x77, x78, x79, x80, x81, x82, x83, x84, x85, x86, x87, x88, x89, x90, x91, x92, x93, x94, x95, x96, x97, x98, x99, x100, x101, x102, x103, x104, x105, x106, x107, x108, x109, x110, x111, x112, x113, x114, x115, x116, x117, x118, x119, x120, x121, x122, x123, x124, x125, x126, x127, x128, x129, x130, x131, x132, x133, x134, x135, x136, x137, x138, x139, x140, x141, x142, x143, x144, x145, x146, x147, x148, x149, x150, x151], []⟩ W)) :
    (atR Tryz.f9 5).wp Tryz.prog Q ⟨#[x0, .pointer (some ⟨b1, 0, none⟩), x2, x3, x4, x5, x6, x7, x8, x9, x10, x11, x12, x13, x14, x15, x16, x17, x18, x19, x20, x21, x22, x23, x24, x25, x26, x27, x28, x29, x30, x31, x32, x33, x34, x35, x36, x37, x38, x39, x40, x41, x42, x43, x44, x45, x46, x47, x48, x49, x50, x51, x52, x53, x54, x55, x56, x57, x58, x59, x60, x61, x62, x63, x64, x65, x66, x67, x68, x69, x70, x71, x72, x73, x74, x75, x76, x77, x78, x79, x80, x81, x82, x83, x84, x85, x86, x87, x88, x89, x90, x91, x92, x93, x94, x95, x96, x97, x98, x99, x100, x101, x102, x103, x104, x105, x106, x107, x108, x109, x110, x111, x112, x113, x114, x115, x116, x117, x118, x119, x120, x121, x122, x123, x124, x125, x126, x127, x128, x129, x130, x131, x132, x133, x134, x135, x136, x137, x138, x139, x140, x141, x142, x143, x144, x145, x146, x147, x148, x149, x150, x151], []⟩ W0 := by
  conv => { arg 2; whnf }
  dsimp only
  have HA2 : Hid (∀ W b, Cont W Con.sam m → Blk W b 3 #[.int .i64 3] → Calls Tryz.prog 12 #[.agg (coA Con.sam m), .agg #[.int .i64 3, .slice (some ⟨b, 0, none⟩) 1 1, .int .i64 0, .int .i64 0, .int .i64 0, .int .i64 0, .slice none 0 0, .int .i64 0, .int .i64 0, .bool false, .bool false, .int .i64 0, .int .i64 0, .int .i64 0, .int .i64 0, .int .i64 0, .int .i64 0, .bool false, .int .i64 0]] W fun e w' => (∃ m', e = .returned (.tuple #[.agg (coA Con.zero m'), .int .i64 1]) ∧ Cont w' Con.zero m') ∧ Below W.heap.size W w') := fun W b h hb => apply_to Con.sam Con.zero m (.wai 3) ⟨some ⟨b, 0, none⟩, 1, none, 0⟩ 1 W h (patM_one hb rfl rfl) sa3.1 sa3.2
  go_wp2_with (first | (refine wpList_row_w (by rfl) 27 _ rfl b1 rfl 27 _ HG.out ⟨_, Tryz.underlying27⟩ (by kernel_rfl) ?_; simp only [Act.put, List.setIfInBounds_toArray, List.set_cons_succ, List.set_cons_zero]) | (go_at_call 12; (with_reducible refine (HA2.out _ _ (HC.out.then_ (wa1 _ _)) (Blk.new _ _ _)).mono ?_); rintro e w3 ⟨⟨m2, rfl, hca⟩, hbw⟩) | (refine wpList_store_all rfl 27 _ _ rfl w3.heap.size 27 [] coZ.toList [] (coA Con.zero m2).toList rfl rfl (Blk.new _ _ _) rfl (by kernel_rfl) (by simp [Value.oneCell']) ?_; intro w9 g9 U9))
  have hs : Below w3.heap.size w3 w9 := (wa1 _ _).trans (U9.b _ (Nat.le_refl _))
  exact hdone.out _ _ _ _ _ _ _ _ _ _ ⟨_, m2, rfl, rfl, g9, hca.then_ hs, below_then (wa1 _ _) (below_then hbw hs)⟩
set_option maxRecDepth 100000 in
set_option maxHeartbeats 6400000 in
theorem head24_r7 {Q : Exit → Act → World → Prop} (m : Cm) (pm : Pm) (b1 bs : Nat) (W0 : World) {x0 x3 x4 x5 x6 x7 x8 x9 x10 x11 x12 x13 x14 x15 x16 x17 x18 x19 x20 x21 x22 x23 x24 x25 x26 x27 x28 x29 x30 x31 x32 x33 x34 x35 x36 x37 x38 x39 x40 x41 x42 x43 x44 x45 x46 x47 x48 x49 x50 x51 x52 x53 x54 x55 x56 x57 x58 x59 x60 x61 x62 x63 x64 x65 x66 x67 x68 x69 x70 x71 x72 x73 x74 x75 x76 x77 x78 x79 x80 x81 x82 x83 x84 x85 x86 x87 x88 x89 x90 x91 x92 x93 x94 x95 x96 x97 x98 x99 x100 x101 x102 x103 x104 x105 x106 x107 x108 x109 x110 x111 x112 x113 x114 x115 x116 x117 x118 x119 x120 x121 x122 x123 x124 x125 x126 x127 x128 x129 x130 x131 x132 x133 x134 x135 x136 x137 x138 x139 x140 x141 x142 x143 x144 x145 x146 x147 x148 x149 x150 x151 : Value} (HG : Hid (Blk W0 b1 27 (coA Con.sam m))) (HC : Hid (Cont W0 Con.sam m)) (HS : Hid (Blk W0 bs 34 (pL Pat.sp pm))) (HP : Hid (PatM W0 Pat.sp pm))
    (hdone : Hid (∀ (v11 v12 v49 v50 v51 v52 v53 v54 : Value) (W : World), (∃ A k, v11 = .slice A 2 k ∧ v12 = .int .i64 0 ∧ SgI W A [0, 2] ∧ Below W0.heap.size W0 W) → Q .normal ⟨#[x0, .pointer (some ⟨b1, 0, none⟩), .pointer (some ⟨bs, 0, none⟩), x3, x4, x5, x6, x7, x8, x9, x10, v11, v12, x13, x14, x15, x16, x17, x18, x19, x20, x21, x22, x23, x24, x25, x26, x27, x28, x29, x30, x31, x32, x33, x34, x35, x36, x37, x38, x39, x40, x41, x42, x43, x44, x45, x46, x47, x48, v49, v50, v51, v52, v53, v54, x55, x56, x57, x58, x59, x60, x61, x62, x63, x64, x65, x66, x67, x68, x69, x70, x71, x72, x73, x74, x75, x76, x77, x78, x79, x80, x81, x82, x83, x84, x85, x86, x87, x88, x89, x90, x91, x92, x93, x94, x95, x96, x97, x98, x99, x100, x101, x102, x103, x104, x105, x106, x107, x108, x109, x110, x111, x112, x113, x114, x115, x116, x117, x118, x119, x120, x121, x122, x123, x124, x125, x126, x127, x128, x129, x130, x131, x132, x133, x134, x135, x136, x137, x138, x139, x140, x141, x142, x143, x144, x145, x146, x147, x148, x149, x150, x151], []⟩ W)) :
    (atR Tryz.f9 7).wp Tryz.prog Q ⟨#[x0, .pointer (some ⟨b1, 0, none⟩), .pointer (some ⟨bs, 0, none⟩), x3, x4, x5, x6, x7, x8, x9, x10, x11, x12, x13, x14, x15, x16, x17, x18, x19, x20, x21, x22, x23, x24, x25, x26, x27, x28, x29, x30, x31, x32, x33, x34, x35, x36, x37, x38, x39, x40, x41, x42, x43, x44, x45, x46, x47, x48, x49, x50, x51, x52, x53, x54, x55, x56, x57, x58, x59, x60, x61, x62, x63, x64, x65, x66, x67, x68, x69, x70, x71, x72, x73, x74, x75, x76, x77, x78, x79, x80, x81, x82, x83, x84, x85, x86, x87, x88, x89, x90, x91, x92, x93, x94, x95, x96, x97, x98, x99, x100, x101, x102, x103, x104, x105, x106, x107, x108, x109, x110, x111, x112, x113, x114, x115, x116, x117, x118, x119, x120, x121, x122, x123, x124, x125, x126, x127, x128, x129, x130, x131, x132, x133, x134, x135, x136, x137, x138, x139, x140, x141, x142, x143, x144, x145, x146, x147, x148, x149, x150, x151], []⟩ W0 := by
  conv => { arg 2; whnf }
  dsimp only
  have HT : Hid (Calls Tryz.prog 13 #[.agg (coA Con.sam m), .agg (pL Pat.sp pm)] W0 fun e w' => (∃ A k, e = .returned (.tuple #[.slice A 2 k, .int .i64 0]) ∧ Seg w' w'.heap.size 1 eI A [0, 2]) ∧ Below W0.heap.size W0 w') := (touches_to Con.sam m .sp pm 0 W0 HC.out HP.out (by decide) (by decide) sa1.1).mono fun e w' ⟨⟨A, k, l, he, hs, _, hz, _⟩, hb⟩ => by
    have hl := two_sorted (hz rfl).2 (hz rfl).1
    subst hl
    exact ⟨⟨A, k, he, hs⟩, hb⟩
  go_wp2_with (first | (refine wpList_row_w (by rfl) 27 _ rfl b1 rfl 27 _ HG.out ⟨_, Tryz.underlying27⟩ (by kernel_rfl) ?_; simp only [Act.put, List.setIfInBounds_toArray, List.set_cons_succ, List.set_cons_zero]) | (refine wpList_row_w (by rfl) 34 _ rfl bs rfl 34 _ HS.out ⟨_, Tryz.underlying34⟩ (by kernel_rfl) ?_; simp only [Act.put, List.setIfInBounds_toArray, List.set_cons_succ, List.set_cons_zero]) | (go_at_call 13; (with_reducible refine HT.out.mono ?_); rintro e w3 ⟨⟨A, k, rfl, hl⟩, hbw⟩))
  exact hdone.out _ _ _ _ _ _ _ _ _ ⟨A, k, rfl, rfl, hl, hbw⟩
set_option maxRecDepth 100000 in
set_option maxHeartbeats 6400000 in
theorem head24_r8 {Q : Exit → Act → World → Prop}  (W0 : World) {x0 x1 x2 x3 x4 x5 x6 x7 x8 x9 x10 x11 x12 x13 x14 x15 x16 x17 x18 x19 x20 x21 x22 x23 x24 x25 x26 x27 x28 x29 x30 x31 x32 x33 x34 x35 x36 x37 x38 x39 x40 x41 x42 x43 x44 x45 x46 x47 x48 x49 x50 x51 x52 x53 x54 x55 x56 x57 x58 x59 x60 x61 x62 x63 x64 x65 x66 x67 x68 x69 x70 x71 x72 x73 x74 x75 x76 x77 x78 x79 x80 x81 x82 x83 x84 x85 x86 x87 x88 x89 x90 x91 x92 x93 x94 x95 x96 x97 x98 x99 x100 x101 x102 x103 x104 x105 x106 x107 x108 x109 x110 x111 x112 x113 x114 x115 x116 x117 x118 x119 x120 x121 x122 x123 x124 x125 x126 x127 x128 x129 x130 x131 x132 x133 x134 x135 x136 x137 x138 x139 x140 x141 x142 x143 x144 x145 x146 x147 x148 x149 x150 x151 : Value} (HL : Hid (Lw W0))
    (hdone : Hid (∀ (v13 v14 v55 v56 v57 v58 : Value) (W : World), (∃ q pm, v13 = .pointer (some ⟨q, 0, none⟩) ∧ v14 = .int .i64 0 ∧ Blk W q 34 (pL Pat.sp pm) ∧ PatM W .sp pm ∧ Below W0.heap.size W0 W) → Q .normal ⟨#[x0, x1, x2, x3, x4, x5, x6, x7, x8, x9, x10, x11, x12, v13, v14, x15, x16, x17, x18, x19, x20, x21, x22, x23, x24, x25, x26, x27, x28, x29, x30, x31, x32, x33, x34, x35, x36, x37, x38, x39, x40, x41, x42, x43, x44, x45, x46, x47, x48, x49, x50, x51, x52, x53, x54, v55, v56, v57, v58, x59, x60, x61, x62, x63, x64, x65, x66, x67, x68, x69, x70, x71, x72, x73, x74, x75, x76, x77, x78, x79, x80, x81, x82, x83, x84, x85, x86, x87, x88, x89, x90, x91, x92, x93, x94, x95, x96, x97, x98, x99, x100, x101, x102, x103, x104, x105, x106, x107, x108, x109, x110, x111, x112, x113, x114, x115, x116, x117, x118, x119, x120, x121, x122, x123, x124, x125, x126, x127, x128, x129, x130, x131, x132, x133, x134, x135, x136, x137, x138, x139, x140, x141, x142, x143, x144, x145, x146, x147, x148, x149, x150, x151], []⟩ W)) :
    (atR Tryz.f9 8).wp Tryz.prog Q ⟨#[x0, x1, x2, x3, x4, x5, x6, x7, x8, x9, x10, x11, x12, x13, x14, x15, x16, x17, x18, x19, x20, x21, x22, x23, x24, x25, x26, x27, x28, x29, x30, x31, x32, x33, x34, x35, x36, x37, x38, x39, x40, x41, x42, x43, x44, x45, x46, x47, x48, x49, x50, x51, x52, x53, x54, x55, x56, x57, x58, x59, x60, x61, x62, x63, x64, x65, x66, x67, x68, x69, x70, x71, x72, x73, x74, x75, x76, x77, x78, x79, x80, x81, x82, x83, x84, x85, x86, x87, x88, x89, x90, x91, x92, x93, x94, x95, x96, x97, x98, x99, x100, x101, x102, x103, x104, x105, x106, x107, x108, x109, x110, x111, x112, x113, x114, x115, x116, x117, x118, x119, x120, x121, x122, x123, x124, x125, x126, x127, x128, x129, x130, x131, x132, x133, x134, x135, x136, x137, x138, x139, x140, x141, x142, x143, x144, x145, x146, x147, x148, x149, x150, x151], []⟩ W0 := by
  conv => { arg 2; whnf }
  dsimp only
  have HPA : Hid (Calls Tryz.prog 16 #[.string ⟨#[112, 97, 116, 99, 104, 32, 53, 32, 49, 48, 32, 50, 32, 48, 32, 50, 32, 48, 32, 48, 32, 48, 32, 48, 32, 48, 32, 48, 32, 48, 32, 48, 32, 48, 32, 48, 32, 48, 32, 48, 32, 48, 32, 48, 32, 48, 32, 48]⟩] W0 fun e w' => (∃ pm, e = .returned (.tuple #[.agg (pL Pat.sp pm), .int .i64 0]) ∧ PatM w' .sp pm) ∧ Below W0.heap.size W0 w') := parse_any W0 HL.out [112, 97, 116, 99, 104, 32, 53, 32, 49, 48, 32, 50, 32, 48, 32, 50, 32, 48, 32, 48, 32, 48, 32, 48, 32, 48, 32, 48, 32, 48, 32, 48, 32, 48, 32, 48, 32, 48, 32, 48, 32, 48, 32, 48, 32, 48, 32, 48] (by decide) .sp 0 (by unfold parsed; rw [sp_parse]; rfl) (by unfold parsedE; rw [sp_parse]; rfl)
  go_wp2_with (first | (go_at_call 16; (with_reducible refine HPA.out.mono ?_); rintro e w3 ⟨⟨pm, rfl, hp⟩, hbw⟩) | (refine wpList_store_all rfl 34 _ _ rfl w3.heap.size 34 [] paZ.toList [] (pL Pat.sp pm).toList rfl rfl (Blk.new _ _ _) rfl (by kernel_rfl) (by simp [Value.oneCell']) ?_; intro w9 g9 U9))
  have hs : Below w3.heap.size w3 w9 := (wa1 _ _).trans (U9.b _ (Nat.le_refl _))
  exact hdone.out _ _ _ _ _ _ _ ⟨_, pm, rfl, rfl, g9, hp.then_ hs, below_then hbw hs⟩
set_option maxRecDepth 100000 in
set_option maxHeartbeats 6400000 in
theorem head24_r9 {Q : Exit → Act → World → Prop} (ma mb md : Cm) (b3 b5 b9 : Nat) (W0 : World) {x0 x1 x2 x7 x8 x11 x12 x13 x14 x15 x16 x17 x18 x19 x20 x21 x22 x23 x24 x25 x26 x27 x28 x29 x30 x31 x32 x33 x34 x35 x36 x37 x38 x39 x40 x41 x42 x43 x44 x45 x46 x47 x48 x49 x50 x51 x52 x53 x54 x55 x56 x57 x58 x59 x60 x61 x62 x63 x64 x65 x66 x67 x68 x69 x70 x71 x72 x73 x74 x75 x76 x77 x78 x79 x80 x81 x82 x83 x84 x85 x86 x87 x88 x89 x90 x91 x92 x93 x94 x95 x96 x97 x98 x99 x100 x101 x102 x103 x104 x105 x106 x107 x108 x109 x110 x111 x112 x113 x114 x115 x116 x117 x118 x119 x120 x121 x122 x123 x124 x125 x126 x127 x128 x129 x130 x131 x132 x133 x134 x135 x136 x137 x138 x139 x140 x141 x142 x143 x144 x145 x146 x147 x148 x149 x150 x151 : Value} (HA : Hid (Blk W0 b3 27 (coA Con.saA ma))) (HB : Hid (Blk W0 b5 27 (coA Con.saB mb))) (HD : Hid (Blk W0 b9 27 (coA Con.saD md)))
    (hdone : Hid (∀ (v59 v60 v61 v62 v63 v64 v65 v66 v67 v68 v69 v70 v71 v72 v73 v74 v75 v76 v77 v78 v79 v80 v81 v82 v83 v84 v85 v86 : Value) (W : World), (v86 = .bool false ∧ W = W0) → Q .normal ⟨#[x0, x1, x2, .pointer (some ⟨b3, 0, none⟩), .int .i64 0, .pointer (some ⟨b5, 0, none⟩), .int .i64 0, x7, x8, .pointer (some ⟨b9, 0, none⟩), .int .i64 0, x11, x12, x13, x14, x15, x16, x17, x18, x19, x20, x21, x22, x23, x24, x25, x26, x27, x28, x29, x30, x31, x32, x33, x34, x35, x36, x37, x38, x39, x40, x41, x42, x43, x44, x45, x46, x47, x48, x49, x50, x51, x52, x53, x54, x55, x56, x57, x58, v59, v60, v61, v62, v63, v64, v65, v66, v67, v68, v69, v70, v71, v72, v73, v74, v75, v76, v77, v78, v79, v80, v81, v82, v83, v84, v85, v86, x87, x88, x89, x90, x91, x92, x93, x94, x95, x96, x97, x98, x99, x100, x101, x102, x103, x104, x105, x106, x107, x108, x109, x110, x111, x112, x113, x114, x115, x116, x117, x118, x119, x120, x121, x122, x123, x124, x125, x126, x127, x128, x129, x130, x131, x132, x133, x134, x135, x136, x137, x138, x139, x140, x141, x142, x143, x144, x145, x146, x147, x148, x149, x150, x151], []⟩ W)) :
    (atR Tryz.f9 9).wp Tryz.prog Q ⟨#[x0, x1, x2, .pointer (some ⟨b3, 0, none⟩), .int .i64 0, .pointer (some ⟨b5, 0, none⟩), .int .i64 0, x7, x8, .pointer (some ⟨b9, 0, none⟩), .int .i64 0, x11, x12, x13, x14, x15, x16, x17, x18, x19, x20, x21, x22, x23, x24, x25, x26, x27, x28, x29, x30, x31, x32, x33, x34, x35, x36, x37, x38, x39, x40, x41, x42, x43, x44, x45, x46, x47, x48, x49, x50, x51, x52, x53, x54, x55, x56, x57, x58, x59, x60, x61, x62, x63, x64, x65, x66, x67, x68, x69, x70, x71, x72, x73, x74, x75, x76, x77, x78, x79, x80, x81, x82, x83, x84, x85, x86, x87, x88, x89, x90, x91, x92, x93, x94, x95, x96, x97, x98, x99, x100, x101, x102, x103, x104, x105, x106, x107, x108, x109, x110, x111, x112, x113, x114, x115, x116, x117, x118, x119, x120, x121, x122, x123, x124, x125, x126, x127, x128, x129, x130, x131, x132, x133, x134, x135, x136, x137, x138, x139, x140, x141, x142, x143, x144, x145, x146, x147, x148, x149, x150, x151], []⟩ W0 := by
  conv => { arg 2; whnf }
  dsimp only
  have a4 : W0.cell? ⟨b3, 4, none⟩ = some (.slice ma.k 3 ma.kc) := HA.out.cell 4
  have b4 : W0.cell? ⟨b5, 4, none⟩ = some (.slice mb.k 3 mb.kc) := HB.out.cell 4
  have d4 : W0.cell? ⟨b9, 4, none⟩ = some (.slice md.k 4 md.kc) := HD.out.cell 4
  go_wp2
  exact hdone.out _ _ _ _ _ _ _ _ _ _ _ _ _ _ _ _ _ _ _ _ _ _ _ _ _ _ _ _ _ ⟨rfl, rfl⟩
set_option maxRecDepth 100000 in
set_option maxHeartbeats 6400000 in
theorem head24_r11 {Q : Exit → Act → World → Prop} (ma mb : Cm) (b3 b5 : Nat) (W0 : World) {x0 x1 x2 x4 x6 x7 x9 x10 x11 x12 x13 x14 x15 x16 x17 x18 x19 x20 x21 x22 x23 x24 x25 x26 x27 x28 x29 x30 x31 x32 x33 x34 x35 x36 x37 x38 x39 x40 x41 x42 x43 x44 x45 x46 x47 x48 x49 x50 x51 x52 x53 x54 x55 x56 x57 x58 x59 x60 x61 x62 x63 x64 x65 x66 x67 x68 x69 x70 x71 x72 x73 x74 x75 x76 x77 x78 x79 x80 x81 x82 x83 x84 x85 x86 x87 x88 x89 x90 x91 x92 x93 x94 x95 x96 x97 x98 x99 x100 x101 x102 x103 x104 x105 x106 x107 x108 x109 x110 x111 x112 x113 x114 x115 x116 x117 x118 x119 x120 x121 x122 x123 x124 x125 x126 x127 x128 x129 x130 x131 x132 x133 x134 x135 x136 x137 x138 x139 x140 x141 x142 x143 x144 x145 x146 x147 x148 x149 x150 x151 : Value} (HA : Hid (Blk W0 b3 27 (coA Con.saA ma))) (HCA : Hid (Cont W0 Con.saA ma)) (HB : Hid (Blk W0 b5 27 (coA Con.saB mb))) (HCB : Hid (Cont W0 Con.saB mb))
    (hdone : Hid (∀ (v15 v87 v88 v89 v90 v91 v92 v93 v94 v95 v96 v97 v98 v99 v100 v101 v102 v103 v104 v105 v106 v107 v108 v109 v110 v111 v112 v113 v114 v115 v116 v117 v118 v119 v120 v121 v122 v123 v124 v125 v126 v127 : Value) (W : World), (v15 = .bool true ∧ W = W0) → Q .normal ⟨#[x0, x1, x2, .pointer (some ⟨b3, 0, none⟩), x4, .pointer (some ⟨b5, 0, none⟩), x6, x7, .int .i64 1, x9, x10, x11, x12, x13, x14, v15, x16, x17, x18, x19, x20, x21, x22, x23, x24, x25, x26, x27, x28, x29, x30, x31, x32, x33, x34, x35, x36, x37, x38, x39, x40, x41, x42, x43, x44, x45, x46, x47, x48, x49, x50, x51, x52, x53, x54, x55, x56, x57, x58, x59, x60, x61, x62, x63, x64, x65, x66, x67, x68, x69, x70, x71, x72, x73, x74, x75, x76, x77, x78, x79, x80, x81, x82, x83, x84, x85, x86, v87, v88, v89, v90, v91, v92, v93, v94, v95, v96, v97, v98, v99, v100, v101, v102, v103, v104, v105, v106, v107, v108, v109, v110, v111, v112, v113, v114, v115, v116, v117, v118, v119, v120, v121, v122, v123, v124, v125, v126, v127, x128, x129, x130, x131, x132, x133, x134, x135, x136, x137, x138, x139, x140, x141, x142, x143, x144, x145, x146, x147, x148, x149, x150, x151], []⟩ W)) :
    (atR Tryz.f9 11).wp Tryz.prog Q ⟨#[x0, x1, x2, .pointer (some ⟨b3, 0, none⟩), x4, .pointer (some ⟨b5, 0, none⟩), x6, x7, .int .i64 1, x9, x10, x11, x12, x13, x14, x15, x16, x17, x18, x19, x20, x21, x22, x23, x24, x25, x26, x27, x28, x29, x30, x31, x32, x33, x34, x35, x36, x37, x38, x39, x40, x41, x42, x43, x44, x45, x46, x47, x48, x49, x50, x51, x52, x53, x54, x55, x56, x57, x58, x59, x60, x61, x62, x63, x64, x65, x66, x67, x68, x69, x70, x71, x72, x73, x74, x75, x76, x77, x78, x79, x80, x81, x82, x83, x84, x85, x86, x87, x88, x89, x90, x91, x92, x93, x94, x95, x96, x97, x98, x99, x100, x101, x102, x103, x104, x105, x106, x107, x108, x109, x110, x111, x112, x113, x114, x115, x116, x117, x118, x119, x120, x121, x122, x123, x124, x125, x126, x127, x128, x129, x130, x131, x132, x133, x134, x135, x136, x137, x138, x139, x140, x141, x142, x143, x144, x145, x146, x147, x148, x149, x150, x151], []⟩ W0 := by
  conv => { arg 2; whnf }
  dsimp only
  obtain ⟨ab, ao, ae, _, ac⟩ := con_cells HCA.out (by decide)
  have af0 : W0.cell? ⟨ab, ao + 5, none⟩ = some (.int .i64 10) := (con_cell HCA.out ac (i := 0) rfl).1
  have aw0 : W0.cell? ⟨ab, ao + 15, none⟩ = some (.bool false) := (con_cell HCA.out ac (i := 0) rfl).2
  have af1 : W0.cell? ⟨ab, ao + 16 + 5, none⟩ = some (.int .i64 2) := (con_cell HCA.out ac (i := 1) rfl).1
  have aw1 : W0.cell? ⟨ab, ao + 16 + 15, none⟩ = some (.bool false) := (con_cell HCA.out ac (i := 1) rfl).2
  have af2 : W0.cell? ⟨ab, ao + 32 + 5, none⟩ = some (.int .i64 10) := (con_cell HCA.out ac (i := 2) rfl).1
  have aw2 : W0.cell? ⟨ab, ao + 32 + 15, none⟩ = some (.bool false) := (con_cell HCA.out ac (i := 2) rfl).2
  have a4 : W0.cell? ⟨b3, 4, none⟩ = some (.slice (some ⟨ab, ao, none⟩) 3 ma.kc) := by rw [← ae]; exact HA.out.cell 4
  clear ac ae
  obtain ⟨bb, bo, be, _, bc⟩ := con_cells HCB.out (by decide)
  have bf0 : W0.cell? ⟨bb, bo + 5, none⟩ = some (.int .i64 2) := (con_cell HCB.out bc (i := 0) rfl).1
  have bw0 : W0.cell? ⟨bb, bo + 15, none⟩ = some (.bool false) := (con_cell HCB.out bc (i := 0) rfl).2
  have bf1 : W0.cell? ⟨bb, bo + 16 + 5, none⟩ = some (.int .i64 2) := (con_cell HCB.out bc (i := 1) rfl).1
  have bw1 : W0.cell? ⟨bb, bo + 16 + 15, none⟩ = some (.bool true) := (con_cell HCB.out bc (i := 1) rfl).2
  have bf2 : W0.cell? ⟨bb, bo + 32 + 5, none⟩ = some (.int .i64 2) := (con_cell HCB.out bc (i := 2) rfl).1
  have bw2 : W0.cell? ⟨bb, bo + 32 + 15, none⟩ = some (.bool false) := (con_cell HCB.out bc (i := 2) rfl).2
  have b4 : W0.cell? ⟨b5, 4, none⟩ = some (.slice (some ⟨bb, bo, none⟩) 3 mb.kc) := by rw [← be]; exact HB.out.cell 4
  clear bc be
  go_wp2
  exact hdone.out _ _ _ _ _ _ _ _ _ _ _ _ _ _ _ _ _ _ _ _ _ _ _ _ _ _ _ _ _ _ _ _ _ _ _ _ _ _ _ _ _ _ _ ⟨rfl, rfl⟩
set_option maxRecDepth 100000 in
set_option maxHeartbeats 6400000 in
theorem head24_r12 {Q : Exit → Act → World → Prop} (pm qm : Pm) (bs b13 : Nat) (A : Option Addr) (k : Nat) (W0 : World) {x0 x1 x3 x4 x5 x6 x7 x8 x9 x10 x16 x17 x18 x19 x20 x21 x22 x23 x24 x25 x26 x27 x28 x29 x30 x31 x32 x33 x34 x35 x36 x37 x38 x39 x40 x41 x42 x43 x44 x45 x46 x47 x48 x49 x50 x51 x52 x53 x54 x55 x56 x57 x58 x59 x60 x61 x62 x63 x64 x65 x66 x67 x68 x69 x70 x71 x72 x73 x74 x75 x76 x77 x78 x79 x80 x81 x82 x83 x84 x85 x86 x87 x88 x89 x90 x91 x92 x93 x94 x95 x96 x97 x98 x99 x100 x101 x102 x103 x104 x105 x106 x107 x108 x109 x110 x111 x112 x113 x114 x115 x116 x117 x118 x119 x120 x121 x122 x123 x124 x125 x126 x127 x128 x129 x130 x131 x132 x133 x134 x135 x136 x137 x138 x139 x140 x141 x142 x143 x144 x145 x146 x147 x148 x149 x150 x151 : Value} (HS : Hid (Blk W0 bs 34 (pL Pat.sp pm))) (HP : Hid (PatM W0 Pat.sp pm)) (H13 : Hid (Blk W0 b13 34 (pL Pat.sp qm))) (HQ13 : Hid (PatM W0 Pat.sp qm)) (HLI : Hid (SgI W0 A [0, 2])) (HL : Hid (Lw W0))
    (hdone : Hid (∀ (v0 v128 v129 v130 v131 v132 v133 v134 v135 v136 v137 v138 v139 v140 v141 v142 v143 v144 v145 v146 v147 v148 v149 v150 v151 : Value) (W : World), (v0 = .bool true ∧ Below W0.heap.size W0 W) → Q .normal ⟨#[v0, x1, .pointer (some ⟨bs, 0, none⟩), x3, x4, x5, x6, x7, x8, x9, x10, .slice A 2 k, .int .i64 0, .pointer (some ⟨b13, 0, none⟩), .int .i64 0, .bool true, x16, x17, x18, x19, x20, x21, x22, x23, x24, x25, x26, x27, x28, x29, x30, x31, x32, x33, x34, x35, x36, x37, x38, x39, x40, x41, x42, x43, x44, x45, x46, x47, x48, x49, x50, x51, x52, x53, x54, x55, x56, x57, x58, x59, x60, x61, x62, x63, x64, x65, x66, x67, x68, x69, x70, x71, x72, x73, x74, x75, x76, x77, x78, x79, x80, x81, x82, x83, x84, x85, x86, x87, x88, x89, x90, x91, x92, x93, x94, x95, x96, x97, x98, x99, x100, x101, x102, x103, x104, x105, x106, x107, x108, x109, x110, x111, x112, x113, x114, x115, x116, x117, x118, x119, x120, x121, x122, x123, x124, x125, x126, x127, v128, v129, v130, v131, v132, v133, v134, v135, v136, v137, v138, v139, v140, v141, v142, v143, v144, v145, v146, v147, v148, v149, v150, v151], []⟩ W)) :
    (atR Tryz.f9 12).wp Tryz.prog Q ⟨#[x0, x1, .pointer (some ⟨bs, 0, none⟩), x3, x4, x5, x6, x7, x8, x9, x10, .slice A 2 k, .int .i64 0, .pointer (some ⟨b13, 0, none⟩), .int .i64 0, .bool true, x16, x17, x18, x19, x20, x21, x22, x23, x24, x25, x26, x27, x28, x29, x30, x31, x32, x33, x34, x35, x36, x37, x38, x39, x40, x41, x42, x43, x44, x45, x46, x47, x48, x49, x50, x51, x52, x53, x54, x55, x56, x57, x58, x59, x60, x61, x62, x63, x64, x65, x66, x67, x68, x69, x70, x71, x72, x73, x74, x75, x76, x77, x78, x79, x80, x81, x82, x83, x84, x85, x86, x87, x88, x89, x90, x91, x92, x93, x94, x95, x96, x97, x98, x99, x100, x101, x102, x103, x104, x105, x106, x107, x108, x109, x110, x111, x112, x113, x114, x115, x116, x117, x118, x119, x120, x121, x122, x123, x124, x125, x126, x127, x128, x129, x130, x131, x132, x133, x134, x135, x136, x137, x138, x139, x140, x141, x142, x143, x144, x145, x146, x147, x148, x149, x150, x151], []⟩ W0 := by
  conv => { arg 2; whnf }
  dsimp only
  have HTE : Hid (∀ W, Below W0.heap.size W0 W → Calls Tryz.prog 17 #[.agg (pL Pat.sp pm)] W fun e w' => e = .returned (.string ⟨#[112, 97, 116, 99, 104, 32, 53, 32, 49, 48, 32, 50, 32, 48, 32, 50, 32, 48, 32, 48, 32, 48, 32, 48, 32, 48, 32, 48, 32, 48, 32, 48, 32, 48, 32, 48, 32, 48, 32, 48, 32, 48, 32, 48, 32, 48, 32, 48]⟩) ∧ Below W.heap.size W w') := fun W hb => text_to W (HL.out.below hb) .sp pm [112, 97, 116, 99, 104, 32, 53, 32, 49, 48, 32, 50, 32, 48, 32, 50, 32, 48, 32, 48, 32, 48, 32, 48, 32, 48, 32, 48, 32, 48, 32, 48, 32, 48, 32, 48, 32, 48, 32, 48, 32, 48, 32, 48, 32, 48, 32, 48] (HP.out.then_ hb) (by decide) (by decide) sp_64 sp_text
  have HQ : Hid (∀ W, Below W0.heap.size W0 W → Calls Tryz.prog 18 #[.agg (pL Pat.sp qm), .agg (pL Pat.sp pm)] W fun e w' => e = .returned (.bool true) ∧ Below W.heap.size W w') := fun W hb => same_to .sp .sp qm pm true W (HQ13.out.then_ hb) (HP.out.then_ hb) (by decide)
  have HI : Hid (∀ W b, Below W0.heap.size W0 W → Blk W b 3 #[.int .i64 0, .int .i64 2] → Calls Tryz.prog 20 #[.slice A 2 k, .slice (some ⟨b, 0, none⟩) 2 2] W fun e w' => e = .returned (.bool true) ∧ Below W.heap.size W w') := fun W b hb h2 => ints_any A (some ⟨b, 0, none⟩) k 2 [0, 2] [0, 2] W (SgI.then_ HLI.out hb) (seg_blk (xs := [0, 2]) eI_len h2) (by decide)
  go_wp2_with (first | (go_at_call 20; (with_reducible refine (HI.out _ _ (wa1 _ _) (Blk.new _ _ _)).mono ?_); rintro e x1 ⟨rfl, hbx1⟩; have hx1 := below_then (wa1 _ _) hbx1) | (refine wpList_row_w (by rfl) 34 _ rfl b13 rfl 34 _ (H13.out.then_ hx1) ⟨_, Tryz.underlying34⟩ (by kernel_rfl) ?_; simp only [Act.put, List.setIfInBounds_toArray, List.set_cons_succ, List.set_cons_zero]) | (refine wpList_row_w (by rfl) 34 _ rfl bs rfl 34 _ (HS.out.then_ hx1) ⟨_, Tryz.underlying34⟩ (by kernel_rfl) ?_; simp only [Act.put, List.setIfInBounds_toArray, List.set_cons_succ, List.set_cons_zero]) | (go_at_call 18; (with_reducible refine (HQ.out _ hx1).mono ?_); rintro e x2 ⟨rfl, hbx2⟩; have hx2 := below_then hx1 hbx2) | (refine wpList_row_w (by rfl) 34 _ rfl bs rfl 34 _ (HS.out.then_ hx2) ⟨_, Tryz.underlying34⟩ (by kernel_rfl) ?_; simp only [Act.put, List.setIfInBounds_toArray, List.set_cons_succ, List.set_cons_zero]) | (go_at_call 17; (with_reducible refine (HTE.out _ hx2).mono ?_); rintro e x3 ⟨rfl, hbx3⟩))
  exact hdone.out _ _ _ _ _ _ _ _ _ _ _ _ _ _ _ _ _ _ _ _ _ _ _ _ _ _ ⟨rfl, below_then hx2 hbx3⟩

end Go.Proofs.YtplommmegkdhdaaGreatDoor
