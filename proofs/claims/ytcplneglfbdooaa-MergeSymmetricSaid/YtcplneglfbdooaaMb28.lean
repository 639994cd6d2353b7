/- Contracts of functions and plain laws, joined: Krq9. -/
import Derived.Test.YtcplneglfbdooaaMb24
/- The walk of region 9 of the law's head. -/
namespace Go.Proofs.Ytcplneglfbdooaa
open Go.RowKit

set_option maxRecDepth 100000 in
set_option maxHeartbeats 6400000 in
theorem head_r9 {Q : Exit → Act → World → Prop} (hQ : PanOk Q) (m : Cm) (bc b4 b5 : Nat) (p5 : Pm) (w9 : World) {x0 x6 x7 x8 x9 x10 x11 x12 x13 x14 x15 x16 x17 x18 x19 x20 x21 x22 x23 x24 x25 x26 x27 x28 x29 x30 x31 x32 x33 x34 x35 x36 x37 x38 x39 x40 x41 x42 x43 x44 x45 x46 x47 x48 x49 x50 x51 x52 x53 x54 x55 x56 x57 x58 x59 x60 x61 x62 x63 x64 x65 x66 x67 x68 x69 x70 x71 x72 x73 x74 x75 x76 x77 x78 x79 x80 x81 x82 x83 x84 x85 x86 x87 x88 x89 x90 x91 x92 x93 x94 x95 x96 x97 x98 x99 x100 x101 x102 x103 x104 x105 x106 x107 x108 x109 x110 x111 x112 x113 x114 x115 x116 x117 x118 x119 x120 x121 x122 x123 x124 x125 x126 x127 x128 x129 x130 x131 x132 x133 x134 x135 x136 x137 x138 x139 x140 x141 x142 x143 x144 x145 x146 x147 x148 x149 x150 x151 x152 x153 x154 x155 x156 x157 x158 x159 x160 x161 x162 x163 x164 x165 x166 x167 x168 x169 x170 x171 x172 x173 x174 x175 x176 x177 x178 x179 x180 x181 x182 x183 x184 x185 x186 x187 x188 x189 : Value} (GC : Hid (Blk w9 bc 27 (coA Con.ex m))) (_G4 : Hid (Blk w9 b4 49 (pL (Pat.plus 7) ⟨none, 0, none, 0⟩))) (G5 : Hid (Blk w9 b5 49 (pL (Pat.repl 0 5) p5))) (HCO : Hid (Cont w9 Con.ex m)) (HP5 : Hid (PatM w9 (Pat.repl 0 5) p5)) (_HP4 : Hid (PatM w9 (Pat.plus 7) ⟨none, 0, none, 0⟩))
    (hdone : Hid (∀ (v15 v16 v17 v64 v65 v66 v67 v68 v69 v70 v71 v72 v73 v74 v75 v76 : Value) (W : World), (∃ A cap b L, v15 = .slice A (L : List Pk).length cap ∧ v16 = .pointer (some ⟨b, 0, none⟩) ∧ v17 = .int .i64 16 ∧ Blk W b 36 (pairA 1 0) ∧ L.length ≤ cap ∧ w9.heap.size ≤ b ∧ Below w9.heap.size w9 W) → Q .normal ⟨#[x0, .pointer (some ⟨bc, 0, none⟩), .func (.func 22) #[] #[], .func (.func 23) #[] #[], .pointer (some ⟨b4, 0, none⟩), .pointer (some ⟨b5, 0, none⟩), x6, x7, x8, x9, x10, x11, x12, x13, x14, v15, v16, v17, x18, x19, x20, x21, x22, x23, x24, x25, x26, x27, x28, x29, x30, x31, x32, x33, x34, x35, x36, x37, x38, x39, x40, x41, x42, x43, x44, x45, x46, x47, x48, x49, x50, x51, x52, x53, x54, x55, x56, x57, x58, x59, x60, x61, x62, x63, v64, v65, v66, v67, v68, v69, v70, v71, v72, v73, v74, v75, v76, x77, x78, x79, x80, x81, x82, x83, x84, x85, x86, x87, x88, x89, x90, x91, x92, x93, x94, x95, x96, x97, x98, x99, x100, x101, x102, x103, x104, x105, x106, x107, x108, x109, x110, x111, x112, x113, x114, x115, x116, x117, x118, x119, x120, x121, x122, x123, x124, x125, x126, x127, x128, x129, x130, x131, x132, x133, x134, x135, x136, x137, x138, x139, x140, x141, x142, x143, x144, x145, x146, x147, x148, x149, x150, x151, x152, x153, x154, x155, x156, x157, x158, x159, x160, x161, x162, x163, x164, x165, x166, x167, x168, x169, x170, x171, x172, x173, x174, x175, x176, x177, x178, x179, x180, x181, x182, x183, x184, x185, x186, x187, x188, x189], []⟩ W)) :
    (atR Try.f9 9).wp Try.prog Q ⟨#[x0, .pointer (some ⟨bc, 0, none⟩), .func (.func 22) #[] #[], .func (.func 23) #[] #[], .pointer (some ⟨b4, 0, none⟩), .pointer (some ⟨b5, 0, none⟩), x6, x7, x8, x9, x10, x11, x12, x13, x14, x15, x16, x17, x18, x19, x20, x21, x22, x23, x24, x25, x26, x27, x28, x29, x30, x31, x32, x33, x34, x35, x36, x37, x38, x39, x40, x41, x42, x43, x44, x45, x46, x47, x48, x49, x50, x51, x52, x53, x54, x55, x56, x57, x58, x59, x60, x61, x62, x63, x64, x65, x66, x67, x68, x69, x70, x71, x72, x73, x74, x75, x76, x77, x78, x79, x80, x81, x82, x83, x84, x85, x86, x87, x88, x89, x90, x91, x92, x93, x94, x95, x96, x97, x98, x99, x100, x101, x102, x103, x104, x105, x106, x107, x108, x109, x110, x111, x112, x113, x114, x115, x116, x117, x118, x119, x120, x121, x122, x123, x124, x125, x126, x127, x128, x129, x130, x131, x132, x133, x134, x135, x136, x137, x138, x139, x140, x141, x142, x143, x144, x145, x146, x147, x148, x149, x150, x151, x152, x153, x154, x155, x156, x157, x158, x159, x160, x161, x162, x163, x164, x165, x166, x167, x168, x169, x170, x171, x172, x173, x174, x175, x176, x177, x178, x179, x180, x181, x182, x183, x184, x185, x186, x187, x188, x189], []⟩ w9 := by
  conv => { arg 2; whnf }
  have HW := Lib.hid (fun i W => lwaive_any i W)
  have HS := Lib.hid (fun i d W => lspan_any i d W)
  have HM9 := Lib.hid (fun (x y : Pm) A1 A2 W h h1 h2 => mrg_at Con.ex m [⟨Pat.waive 1, x⟩, ⟨Pat.waive 0, y⟩] [⟨Pat.repl 0 5, p5⟩] A1 A2 2 1 W 16 1 0 [] h h1 h2 rfl rfl ex9 (by rw [if_neg (by decide)]))
  refine wp_region_hb (fun w' => Hid (Below w9.heap.size w9 w')) [0, 1, 2, 3, 4, 5, 6, 7, 8, 9, 10, 11, 12, 13, 14, 15] [16] (by kernel_rfl) (by kernel_rfl) hQ (Lib.hid (Below.drew (Below.refl _ _))) (fun hdir hsel hpan hHeld => ?_)
  refine wpHB_tk hdir hsel hpan (i := 0) (oi := ⟨some 65, _, _, _, _, _⟩) rfl (by kernel_rfl) (yieldsIf_row (by rfl) 27 _ rfl bc rfl 27 _ (fun w hw => (GC.out.then_ hw.out)) ⟨_, Try.underlying27⟩ (by kernel_rfl)) hHeld ?_
  refine wpHB_tk hdir hsel hpan (i := 1) (oi := ⟨some 66, _, _, _, _, _⟩) (v := .func (.func 22) #[] #[]) rfl (by kernel_rfl) (Or.inl ⟨by rfl, fun w hw => by rfl⟩) hHeld ?_
  refine wpHB_tk hdir hsel hpan (i := 3) (oi := ⟨some 68, _, _, _, _, _⟩) (v := .func (.func 22) #[] #[]) rfl (by kernel_rfl) (Or.inl ⟨by rfl, fun w hw => by rfl⟩) hHeld ?_
  refine wpHB_tk hdir hsel hpan (i := 6) (oi := ⟨some 71, _, _, _, _, _⟩) rfl (by kernel_rfl) (yieldsIf_row (by rfl) 49 _ rfl b5 rfl 49 _ (fun w hw => (G5.out.then_ hw.out)) ⟨_, Try.underlying49⟩ (by kernel_rfl)) hHeld ?_
  try simp only [Act.put, List.setIfInBounds_toArray, List.set_cons_zero, List.set_cons_succ]
  refine wpHB_ready (rs := [2, 7, 13]) (by kernel_rfl) (by simp) ?_
  refine AllHB.cons (by kernel_rfl) (o := ⟨some 67, _, _, _, _, _⟩) rfl (fun K hK => ?_) ?_
  · go_simp
    (go_at_call 22; (with_reducible refine (HW.out _ _).mono ?_); rintro e wa ⟨⟨pma, rfl, hpa, _⟩, hba⟩)
    refine hK.out _ _ (Lib.hid (below_then hHeld.out hba)) (fun hHeld => ?_)
    clear hK K
    try simp only [Act.put, List.setIfInBounds_toArray, List.set_cons_zero, List.set_cons_succ]
    refine wpHB_ready (rs := [4, 7, 13]) (by kernel_rfl) (by simp) ?_
    refine AllHB.cons (by kernel_rfl) (o := ⟨some 69, _, _, _, _, _⟩) rfl (fun K hK => ?_) ?_
    · go_simp
      (go_at_call 22; (with_reducible refine (HW.out _ _).mono ?_); rintro e wd ⟨⟨pmc, rfl, hpc, _⟩, hbc⟩)
      refine hK.out _ _ (Lib.hid (below_then hHeld.out hbc)) (fun hHeld => ?_)
      clear hK K
      try simp only [Act.put, List.setIfInBounds_toArray, List.set_cons_zero, List.set_cons_succ]
      refine wpHB_ready (rs := [5, 7, 13]) (by kernel_rfl) (by simp) ?_
      refine AllHB.cons (by kernel_rfl) (o := ⟨some 70, _, _, _, _, _⟩) rfl (fun K hK => ?_) ?_
      · go_simp
        refine name_k ?_
        intro Vb hVb
        obtain ⟨hqb, hbb⟩ := pats_new2 ⟨Pat.waive 1, pma⟩ ⟨Pat.waive 0, pmc⟩ hVb (hpa.then_ hbc) (hpc.then_ (Below.refl _ _))
        clear hVb
        first | replace hqb : Pats Vb (some ⟨w9.heap.size, 0, none⟩) _ := hqb | skip
        refine hK.out _ _ (Lib.hid (below_then hHeld.out hbb)) (fun hHeld => ?_)
        clear hK K
        try simp only [Act.put, List.setIfInBounds_toArray, List.set_cons_zero, List.set_cons_succ]
        refine wpHB_ready (rs := [7, 13]) (by kernel_rfl) (by simp) ?_
        refine AllHB.cons (by kernel_rfl) (o := ⟨some 72, _, _, _, _, _⟩) rfl (fun K hK => ?_) ?_
        · go_simp
          refine name_k ?_
          intro Vd hVd
          obtain ⟨hqd, hbd⟩ := pats_new ⟨Pat.repl 0 5, p5⟩ hVd (HP5.out.then_ hHeld.out)
          clear hVd
          first | replace hqd : Pats Vd (some ⟨w9.heap.size, 0, none⟩) _ := hqd | skip
          refine hK.out _ _ (Lib.hid (below_then hHeld.out hbd)) (fun hHeld => ?_)
          clear hK K
          try simp only [Act.put, List.setIfInBounds_toArray, List.set_cons_zero, List.set_cons_succ]
          refine wpHB_ready (rs := [8, 13]) (by kernel_rfl) (by simp) ?_
          refine AllHB.cons (by kernel_rfl) (o := ⟨some 73, _, _, _, _, _⟩) rfl (fun K hK => ?_) ?_
          · go_simp
            (go_at_call 13; (with_reducible refine (HM9.out pma pmc _ _ _ (HCO.out.then_ hHeld.out) (hqb.then_ hbd) (hqd.then_ (Below.refl _ _))).mono ?_); rintro e wm ⟨⟨AM, kM, M, rfl, hM, hqM, hlM⟩, hbm⟩)
            refine hK.out _ _ (Lib.hid (below_then hHeld.out hbm)) (fun hHeld => ?_)
            clear hK K
            try simp only [Act.put, List.setIfInBounds_toArray, List.set_cons_zero, List.set_cons_succ]
            refine wpHB_tk hdir hsel hpan (i := 9) (oi := ⟨some 64, _, _, _, _, _⟩) rfl (by kernel_rfl) (Or.inl ⟨by rfl, fun _ _ => by rfl⟩) hHeld ?_
            refine wpHB_tk hdir hsel hpan (i := 10) (oi := ⟨some 74, _, _, _, _, _⟩) rfl (by kernel_rfl) (Or.inl ⟨by rfl, fun _ _ => by rfl⟩) hHeld ?_
            refine wpHB_tk hdir hsel hpan (i := 11) (oi := ⟨some 75, _, _, _, _, _⟩) rfl (by kernel_rfl) (Or.inl ⟨by rfl, fun _ _ => by rfl⟩) hHeld ?_
            refine wpHB_tk hdir hsel hpan (i := 12) (oi := ⟨some 76, _, _, _, _, _⟩) rfl (by kernel_rfl) (Or.inl ⟨by rfl, fun _ _ => by rfl⟩) hHeld ?_
            try simp only [Act.put, List.setIfInBounds_toArray, List.set_cons_zero, List.set_cons_succ]
            refine wpHB_ready (rs := [13]) (by kernel_rfl) (by simp) ?_
            refine AllHB.cons (by kernel_rfl) (o := ⟨some 16, _, _, _, _, _⟩) rfl (fun K hK => ?_) AllHB.nil
            go_simp
            have lb := hHeld.out.size
            refine name_k ?_
            intro Vp hVp
            first | obtain ⟨gp, hbp⟩ := pair_new hVp | obtain ⟨gp, hbp⟩ := pair_new (W := w9.drew) hVp
            clear hVp
            refine hK.out _ _ (Lib.hid (below_then hHeld.out hbp)) (fun hHeld => ?_)
            clear hK K
            try simp only [Act.put, List.setIfInBounds_toArray, List.set_cons_zero, List.set_cons_succ]
            refine wpHB_tk hdir hsel hpan (i := 14) (oi := ⟨some 15, _, _, _, _, _⟩) rfl (by kernel_rfl) (Or.inl ⟨by rfl, fun _ _ => by rfl⟩) hHeld ?_
            try simp only [Act.put, List.setIfInBounds_toArray, List.set_cons_zero, List.set_cons_succ]
            refine wpHB_ready (rs := [15]) (by kernel_rfl) (by simp) ?_
            refine AllHB.cons (by kernel_rfl) (o := ⟨none, _, _, _, _, _⟩) rfl (fun K hK => ?_) AllHB.nil
            rw [if_pos (by rfl)]
            refine wp_store_all 36 _ _ rfl _ 36 [] (pairA 0 0).toList [] (pairA 1 0).toList rfl rfl (gp.then_ (Below.refl _ _)) rfl (by kernel_rfl) (by simp [Value.oneCell']) ?_
            intro w8 g8 U8
            refine hK.out _ _ (Lib.hid (hHeld.out.trans (U8.b _ lb))) (fun hHeld => ?_)
            clear hK K
            try simp only [Act.put]
            refine wpHB_tail (by kernel_rfl) (by kernel_rfl) ?_
            clear hdir hsel hpan
            simp only [opsAt, List.getElem?_toArray, List.getElem?_cons_succ, List.getElem?_cons_zero, Option.toList_some, List.cons_append, List.nil_append]
            go_wp2
            exact hdone.out _ _ _ _ _ _ _ _ _ _ _ _ _ _ _ _ _ ⟨_, _, _, _, rfl, rfl, rfl, g8, hlM, lb, hHeld.out⟩
          refine AllHB.cons (by kernel_rfl) (o := ⟨some 16, _, _, _, _, _⟩) rfl (fun K hK => ?_) ?_
          · go_simp
            have lb := hHeld.out.size
            refine name_k ?_
            intro Vp hVp
            first | obtain ⟨gp, hbp⟩ := pair_new hVp | obtain ⟨gp, hbp⟩ := pair_new (W := w9.drew) hVp
            clear hVp
            refine hK.out _ _ (Lib.hid (below_then hHeld.out hbp)) (fun hHeld => ?_)
            clear hK K
            try simp only [Act.put, List.setIfInBounds_toArray, List.set_cons_zero, List.set_cons_succ]
            refine wpHB_ready (rs := [8]) (by kernel_rfl) (by simp) ?_
            refine AllHB.cons (by kernel_rfl) (o := ⟨some 73, _, _, _, _, _⟩) rfl (fun K hK => ?_) AllHB.nil
            go_simp
            (go_at_call 13; (with_reducible refine (HM9.out pma pmc _ _ _ (HCO.out.then_ hHeld.out) (hqb.then_ (below_then hbd hbp)) (hqd.then_ hbp)).mono ?_); rintro e wm ⟨⟨AM, kM, M, rfl, hM, hqM, hlM⟩, hbm⟩)
            refine hK.out _ _ (Lib.hid (below_then hHeld.out hbm)) (fun hHeld => ?_)
            clear hK K
            try simp only [Act.put, List.setIfInBounds_toArray, List.set_cons_zero, List.set_cons_succ]
            refine wpHB_tk hdir hsel hpan (i := 9) (oi := ⟨some 64, _, _, _, _, _⟩) rfl (by kernel_rfl) (Or.inl ⟨by rfl, fun _ _ => by rfl⟩) hHeld ?_
            refine wpHB_tk hdir hsel hpan (i := 10) (oi := ⟨some 74, _, _, _, _, _⟩) rfl (by kernel_rfl) (Or.inl ⟨by rfl, fun _ _ => by rfl⟩) hHeld ?_
            refine wpHB_tk hdir hsel hpan (i := 11) (oi := ⟨some 75, _, _, _, _, _⟩) rfl (by kernel_rfl) (Or.inl ⟨by rfl, fun _ _ => by rfl⟩) hHeld ?_
            refine wpHB_tk hdir hsel hpan (i := 12) (oi := ⟨some 76, _, _, _, _, _⟩) rfl (by kernel_rfl) (Or.inl ⟨by rfl, fun _ _ => by rfl⟩) hHeld ?_
            refine wpHB_tk hdir hsel hpan (i := 14) (oi := ⟨some 15, _, _, _, _, _⟩) rfl (by kernel_rfl) (Or.inl ⟨by rfl, fun _ _ => by rfl⟩) hHeld ?_
            try simp only [Act.put, List.setIfInBounds_toArray, List.set_cons_zero, List.set_cons_succ]
            refine wpHB_ready (rs := [15]) (by kernel_rfl) (by simp) ?_
            refine AllHB.cons (by kernel_rfl) (o := ⟨none, _, _, _, _, _⟩) rfl (fun K hK => ?_) AllHB.nil
            rw [if_pos (by rfl)]
            refine wp_store_all 36 _ _ rfl _ 36 [] (pairA 0 0).toList [] (pairA 1 0).toList rfl rfl (gp.then_ hbm) rfl (by kernel_rfl) (by simp [Value.oneCell']) ?_
            intro w8 g8 U8
            refine hK.out _ _ (Lib.hid (hHeld.out.trans (U8.b _ lb))) (fun hHeld => ?_)
            clear hK K
            try simp only [Act.put]
            refine wpHB_tail (by kernel_rfl) (by kernel_rfl) ?_
            clear hdir hsel hpan
            simp only [opsAt, List.getElem?_toArray, List.getElem?_cons_succ, List.getElem?_cons_zero, Option.toList_some, List.cons_append, List.nil_append]
            go_wp2
            exact hdone.out _ _ _ _ _ _ _ _ _ _ _ _ _ _ _ _ _ ⟨_, _, _, _, rfl, rfl, rfl, g8, hlM, lb, hHeld.out⟩
          exact AllHB.nil
        refine AllHB.cons (by kernel_rfl) (o := ⟨some 16, _, _, _, _, _⟩) rfl (fun K hK => ?_) ?_
        · go_simp
          have lb := hHeld.out.size
          refine name_k ?_
          intro Vp hVp
          first | obtain ⟨gp, hbp⟩ := pair_new hVp | obtain ⟨gp, hbp⟩ := pair_new (W := w9.drew) hVp
          clear hVp
          refine hK.out _ _ (Lib.hid (below_then hHeld.out hbp)) (fun hHeld => ?_)
          clear hK K
          try simp only [Act.put, List.setIfInBounds_toArray, List.set_cons_zero, List.set_cons_succ]
          refine wpHB_ready (rs := [7]) (by kernel_rfl) (by simp) ?_
          refine AllHB.cons (by kernel_rfl) (o := ⟨some 72, _, _, _, _, _⟩) rfl (fun K hK => ?_) AllHB.nil
          go_simp
          refine name_k ?_
          intro Vd hVd
          obtain ⟨hqd, hbd⟩ := pats_new ⟨Pat.repl 0 5, p5⟩ hVd (HP5.out.then_ hHeld.out)
          clear hVd
          first | replace hqd : Pats Vd (some ⟨w9.heap.size, 0, none⟩) _ := hqd | skip
          refine hK.out _ _ (Lib.hid (below_then hHeld.out hbd)) (fun hHeld => ?_)
          clear hK K
          try simp only [Act.put, List.setIfInBounds_toArray, List.set_cons_zero, List.set_cons_succ]
          refine wpHB_ready (rs := [8]) (by kernel_rfl) (by simp) ?_
          refine AllHB.cons (by kernel_rfl) (o := ⟨some 73, _, _, _, _, _⟩) rfl (fun K hK => ?_) AllHB.nil
          go_simp
          (go_at_call 13; (with_reducible refine (HM9.out pma pmc _ _ _ (HCO.out.then_ hHeld.out) (hqb.then_ (below_then hbp hbd)) (hqd.then_ (Below.refl _ _))).mono ?_); rintro e wm ⟨⟨AM, kM, M, rfl, hM, hqM, hlM⟩, hbm⟩)
          refine hK.out _ _ (Lib.hid (below_then hHeld.out hbm)) (fun hHeld => ?_)
          clear hK K
          try simp only [Act.put, List.setIfInBounds_toArray, List.set_cons_zero, List.set_cons_succ]
          refine wpHB_tk hdir hsel hpan (i := 9) (oi := ⟨some 64, _, _, _, _, _⟩) rfl (by kernel_rfl) (Or.inl ⟨by rfl, fun _ _ => by rfl⟩) hHeld ?_
          refine wpHB_tk hdir hsel hpan (i := 10) (oi := ⟨some 74, _, _, _, _, _⟩) rfl (by kernel_rfl) (Or.inl ⟨by rfl, fun _ _ => by rfl⟩) hHeld ?_
          refine wpHB_tk hdir hsel hpan (i := 11) (oi := ⟨some 75, _, _, _, _, _⟩) rfl (by kernel_rfl) (Or.inl ⟨by rfl, fun _ _ => by rfl⟩) hHeld ?_
          refine wpHB_tk hdir hsel hpan (i := 12) (oi := ⟨some 76, _, _, _, _, _⟩) rfl (by kernel_rfl) (Or.inl ⟨by rfl, fun _ _ => by rfl⟩) hHeld ?_
          refine wpHB_tk hdir hsel hpan (i := 14) (oi := ⟨some 15, _, _, _, _, _⟩) rfl (by kernel_rfl) (Or.inl ⟨by rfl, fun _ _ => by rfl⟩) hHeld ?_
          try simp only [Act.put, List.setIfInBounds_toArray, List.set_cons_zero, List.set_cons_succ]
          refine wpHB_ready (rs := [15]) (by kernel_rfl) (by simp) ?_
          refine AllHB.cons (by kernel_rfl) (o := ⟨none, _, _, _, _, _⟩) rfl (fun K hK => ?_) AllHB.nil
          rw [if_pos (by rfl)]
          refine wp_store_all 36 _ _ rfl _ 36 [] (pairA 0 0).toList [] (pairA 1 0).toList rfl rfl (gp.then_ (below_then hbd hbm)) rfl (by kernel_rfl) (by simp [Value.oneCell']) ?_
          intro w8 g8 U8
          refine hK.out _ _ (Lib.hid (hHeld.out.trans (U8.b _ lb))) (fun hHeld => ?_)
          clear hK K
          try simp only [Act.put]
          refine wpHB_tail (by kernel_rfl) (by kernel_rfl) ?_
          clear hdir hsel hpan
          simp only [opsAt, List.getElem?_toArray, List.getElem?_cons_succ, List.getElem?_cons_zero, Option.toList_some, List.cons_append, List.nil_append]
          go_wp2
          exact hdone.out _ _ _ _ _ _ _ _ _ _ _ _ _ _ _ _ _ ⟨_, _, _, _, rfl, rfl, rfl, g8, hlM, lb, hHeld.out⟩
        exact AllHB.nil
      refine AllHB.cons (by kernel_rfl) (o := ⟨some 72, _, _, _, _, _⟩) rfl (fun K hK => ?_) ?_
      · go_simp
        refine name_k ?_
        intro Vd hVd
        obtain ⟨hqd, hbd⟩ := pats_new ⟨Pat.repl 0 5, p5⟩ hVd (HP5.out.then_ hHeld.out)
        clear hVd
        first | replace hqd : Pats Vd (some ⟨w9.heap.size, 0, none⟩) _ := hqd | skip
        refine hK.out _ _ (Lib.hid (below_then hHeld.out hbd)) (fun hHeld => ?_)
        clear hK K
        try simp only [Act.put, List.setIfInBounds_toArray, List.set_cons_zero, List.set_cons_succ]
        refine wpHB_ready (rs := [5, 13]) (by kernel_rfl) (by simp) ?_
        refine AllHB.cons (by kernel_rfl) (o := ⟨some 70, _, _, _, _, _⟩) rfl (fun K hK => ?_) ?_
        · go_simp
          refine name_k ?_
          intro Vb hVb
          obtain ⟨hqb, hbb⟩ := pats_new2 ⟨Pat.waive 1, pma⟩ ⟨Pat.waive 0, pmc⟩ hVb (hpa.then_ (below_then hbc hbd)) (hpc.then_ hbd)
          clear hVb
          first | replace hqb : Pats Vb (some ⟨w9.heap.size, 0, none⟩) _ := hqb | skip
          refine hK.out _ _ (Lib.hid (below_then hHeld.out hbb)) (fun hHeld => ?_)
          clear hK K
          try simp only [Act.put, List.setIfInBounds_toArray, List.set_cons_zero, List.set_cons_succ]
          refine wpHB_ready (rs := [8, 13]) (by kernel_rfl) (by simp) ?_
          refine AllHB.cons (by kernel_rfl) (o := ⟨some 73, _, _, _, _, _⟩) rfl (fun K hK => ?_) ?_
          · go_simp
            (go_at_call 13; (with_reducible refine (HM9.out pma pmc _ _ _ (HCO.out.then_ hHeld.out) (hqb.then_ (Below.refl _ _)) (hqd.then_ hbb)).mono ?_); rintro e wm ⟨⟨AM, kM, M, rfl, hM, hqM, hlM⟩, hbm⟩)
            refine hK.out _ _ (Lib.hid (below_then hHeld.out hbm)) (fun hHeld => ?_)
            clear hK K
            try simp only [Act.put, List.setIfInBounds_toArray, List.set_cons_zero, List.set_cons_succ]
            refine wpHB_tk hdir hsel hpan (i := 9) (oi := ⟨some 64, _, _, _, _, _⟩) rfl (by kernel_rfl) (Or.inl ⟨by rfl, fun _ _ => by rfl⟩) hHeld ?_
            refine wpHB_tk hdir hsel hpan (i := 10) (oi := ⟨some 74, _, _, _, _, _⟩) rfl (by kernel_rfl) (Or.inl ⟨by rfl, fun _ _ => by rfl⟩) hHeld ?_
            refine wpHB_tk hdir hsel hpan (i := 11) (oi := ⟨some 75, _, _, _, _, _⟩) rfl (by kernel_rfl) (Or.inl ⟨by rfl, fun _ _ => by rfl⟩) hHeld ?_
            refine wpHB_tk hdir hsel hpan (i := 12) (oi := ⟨some 76, _, _, _, _, _⟩) rfl (by kernel_rfl) (Or.inl ⟨by rfl, fun _ _ => by rfl⟩) hHeld ?_
            try simp only [Act.put, List.setIfInBounds_toArray, List.set_cons_zero, List.set_cons_succ]
            refine wpHB_ready (rs := [13]) (by kernel_rfl) (by simp) ?_
            refine AllHB.cons (by kernel_rfl) (o := ⟨some 16, _, _, _, _, _⟩) rfl (fun K hK => ?_) AllHB.nil
            go_simp
            have lb := hHeld.out.size
            refine name_k ?_
            intro Vp hVp
            first | obtain ⟨gp, hbp⟩ := pair_new hVp | obtain ⟨gp, hbp⟩ := pair_new (W := w9.drew) hVp
            clear hVp
            refine hK.out _ _ (Lib.hid (below_then hHeld.out hbp)) (fun hHeld => ?_)
            clear hK K
            try simp only [Act.put, List.setIfInBounds_toArray, List.set_cons_zero, List.set_cons_succ]
            refine wpHB_tk hdir hsel hpan (i := 14) (oi := ⟨some 15, _, _, _, _, _⟩) rfl (by kernel_rfl) (Or.inl ⟨by rfl, fun _ _ => by rfl⟩) hHeld ?_
            try simp only [Act.put, List.setIfInBounds_toArray, List.set_cons_zero, List.set_cons_succ]
            refine wpHB_ready (rs := [15]) (by kernel_rfl) (by simp) ?_
            refine AllHB.cons (by kernel_rfl) (o := ⟨none, _, _, _, _, _⟩) rfl (fun K hK => ?_) AllHB.nil
            rw [if_pos (by rfl)]
            refine wp_store_all 36 _ _ rfl _ 36 [] (pairA 0 0).toList [] (pairA 1 0).toList rfl rfl (gp.then_ (Below.refl _ _)) rfl (by kernel_rfl) (by simp [Value.oneCell']) ?_
            intro w8 g8 U8
            refine hK.out _ _ (Lib.hid (hHeld.out.trans (U8.b _ lb))) (fun hHeld => ?_)
            clear hK K
            try simp only [Act.put]
            refine wpHB_tail (by kernel_rfl) (by kernel_rfl) ?_
            clear hdir hsel hpan
            simp only [opsAt, List.getElem?_toArray, List.getElem?_cons_succ, List.getElem?_cons_zero, Option.toList_some, List.cons_append, List.nil_append]
            go_wp2
            exact hdone.out _ _ _ _ _ _ _ _ _ _ _ _ _ _ _ _ _ ⟨_, _, _, _, rfl, rfl, rfl, g8, hlM, lb, hHeld.out⟩
          refine AllHB.cons (by kernel_rfl) (o := ⟨some 16, _, _, _, _, _⟩) rfl (fun K hK => ?_) ?_
          · go_simp
            have lb := hHeld.out.size
            refine name_k ?_
            intro Vp hVp
            first | obtain ⟨gp, hbp⟩ := pair_new hVp | obtain ⟨gp, hbp⟩ := pair_new (W := w9.drew) hVp
            clear hVp
            refine hK.out _ _ (Lib.hid (below_then hHeld.out hbp)) (fun hHeld => ?_)
            clear hK K
            try simp only [Act.put, List.setIfInBounds_toArray, List.set_cons_zero, List.set_cons_succ]
            refine wpHB_ready (rs := [8]) (by kernel_rfl) (by simp) ?_
            refine AllHB.cons (by kernel_rfl) (o := ⟨some 73, _, _, _, _, _⟩) rfl (fun K hK => ?_) AllHB.nil
            go_simp
            (go_at_call 13; (with_reducible refine (HM9.out pma pmc _ _ _ (HCO.out.then_ hHeld.out) (hqb.then_ hbp) (hqd.then_ (below_then hbb hbp))).mono ?_); rintro e wm ⟨⟨AM, kM, M, rfl, hM, hqM, hlM⟩, hbm⟩)
            refine hK.out _ _ (Lib.hid (below_then hHeld.out hbm)) (fun hHeld => ?_)
            clear hK K
            try simp only [Act.put, List.setIfInBounds_toArray, List.set_cons_zero, List.set_cons_succ]
            refine wpHB_tk hdir hsel hpan (i := 9) (oi := ⟨some 64, _, _, _, _, _⟩) rfl (by kernel_rfl) (Or.inl ⟨by rfl, fun _ _ => by rfl⟩) hHeld ?_
            refine wpHB_tk hdir hsel hpan (i := 10) (oi := ⟨some 74, _, _, _, _, _⟩) rfl (by kernel_rfl) (Or.inl ⟨by rfl, fun _ _ => by rfl⟩) hHeld ?_
            refine wpHB_tk hdir hsel hpan (i := 11) (oi := ⟨some 75, _, _, _, _, _⟩) rfl (by kernel_rfl) (Or.inl ⟨by rfl, fun _ _ => by rfl⟩) hHeld ?_
            refine wpHB_tk hdir hsel hpan (i := 12) (oi := ⟨some 76, _, _, _, _, _⟩) rfl (by kernel_rfl) (Or.inl ⟨by rfl, fun _ _ => by rfl⟩) hHeld ?_
            refine wpHB_tk hdir hsel hpan (i := 14) (oi := ⟨some 15, _, _, _, _, _⟩) rfl (by kernel_rfl) (Or.inl ⟨by rfl, fun _ _ => by rfl⟩) hHeld ?_
            try simp only [Act.put, List.setIfInBounds_toArray, List.set_cons_zero, List.set_cons_succ]
            refine wpHB_ready (rs := [15]) (by kernel_rfl) (by simp) ?_
            refine AllHB.cons (by kernel_rfl) (o := ⟨none, _, _, _, _, _⟩) rfl (fun K hK => ?_) AllHB.nil
            rw [if_pos (by rfl)]
            refine wp_store_all 36 _ _ rfl _ 36 [] (pairA 0 0).toList [] (pairA 1 0).toList rfl rfl (gp.then_ hbm) rfl (by kernel_rfl) (by simp [Value.oneCell']) ?_
            intro w8 g8 U8
            refine hK.out _ _ (Lib.hid (hHeld.out.trans (U8.b _ lb))) (fun hHeld => ?_)
            clear hK K
            try simp only [Act.put]
            refine wpHB_tail (by kernel_rfl) (by kernel_rfl) ?_
            clear hdir hsel hpan
            simp only [opsAt, List.getElem?_toArray, List.getElem?_cons_succ, List.getElem?_cons_zero, Option.toList_some, List.cons_append, List.nil_append]
            go_wp2
            exact hdone.out _ _ _ _ _ _ _ _ _ _ _ _ _ _ _ _ _ ⟨_, _, _, _, rfl, rfl, rfl, g8, hlM, lb, hHeld.out⟩
          exact AllHB.nil
        refine AllHB.cons (by kernel_rfl) (o := ⟨some 16, _, _, _, _, _⟩) rfl (fun K hK => ?_) ?_
        · go_simp
          have lb := hHeld.out.size
          refine name_k ?_
          intro Vp hVp
          first | obtain ⟨gp, hbp⟩ := pair_new hVp | obtain ⟨gp, hbp⟩ := pair_new (W := w9.drew) hVp
          clear hVp
          refine hK.out _ _ (Lib.hid (below_then hHeld.out hbp)) (fun hHeld => ?_)
          clear hK K
          try simp only [Act.put, List.setIfInBounds_toArray, List.set_cons_zero, List.set_cons_succ]
          refine wpHB_ready (rs := [5]) (by kernel_rfl) (by simp) ?_
          refine AllHB.cons (by kernel_rfl) (o := ⟨some 70, _, _, _, _, _⟩) rfl (fun K hK => ?_) AllHB.nil
          go_simp
          refine name_k ?_
          intro Vb hVb
          obtain ⟨hqb, hbb⟩ := pats_new2 ⟨Pat.waive 1, pma⟩ ⟨Pat.waive 0, pmc⟩ hVb (hpa.then_ (below_then hbc (below_then hbd hbp))) (hpc.then_ (below_then hbd hbp))
          clear hVb
          first | replace hqb : Pats Vb (some ⟨w9.heap.size, 0, none⟩) _ := hqb | skip
          refine hK.out _ _ (Lib.hid (below_then hHeld.out hbb)) (fun hHeld => ?_)
          clear hK K
          try simp only [Act.put, List.setIfInBounds_toArray, List.set_cons_zero, List.set_cons_succ]
          refine wpHB_ready (rs := [8]) (by kernel_rfl) (by simp) ?_
          refine AllHB.cons (by kernel_rfl) (o := ⟨some 73, _, _, _, _, _⟩) rfl (fun K hK => ?_) AllHB.nil
          go_simp
          (go_at_call 13; (with_reducible refine (HM9.out pma pmc _ _ _ (HCO.out.then_ hHeld.out) (hqb.then_ (Below.refl _ _)) (hqd.then_ (below_then hbp hbb))).mono ?_); rintro e wm ⟨⟨AM, kM, M, rfl, hM, hqM, hlM⟩, hbm⟩)
          refine hK.out _ _ (Lib.hid (below_then hHeld.out hbm)) (fun hHeld => ?_)
          clear hK K
          try simp only [Act.put, List.setIfInBounds_toArray, List.set_cons_zero, List.set_cons_succ]
          refine wpHB_tk hdir hsel hpan (i := 9) (oi := ⟨some 64, _, _, _, _, _⟩) rfl (by kernel_rfl) (Or.inl ⟨by rfl, fun _ _ => by rfl⟩) hHeld ?_
          refine wpHB_tk hdir hsel hpan (i := 10) (oi := ⟨some 74, _, _, _, _, _⟩) rfl (by kernel_rfl) (Or.inl ⟨by rfl, fun _ _ => by rfl⟩) hHeld ?_
          refine wpHB_tk hdir hsel hpan (i := 11) (oi := ⟨some 75, _, _, _, _, _⟩) rfl (by kernel_rfl) (Or.inl ⟨by rfl, fun _ _ => by rfl⟩) hHeld ?_
          refine wpHB_tk hdir hsel hpan (i := 12) (oi := ⟨some 76, _, _, _, _, _⟩) rfl (by kernel_rfl) (Or.inl ⟨by rfl, fun _ _ => by rfl⟩) hHeld ?_
          refine wpHB_tk hdir hsel hpan (i := 14) (oi := ⟨some 15, _, _, _, _, _⟩) rfl (by kernel_rfl) (Or.inl ⟨by rfl, fun _ _ => by rfl⟩) hHeld ?_
          try simp only [Act.put, List.setIfInBounds_toArray, List.set_cons_zero, List.set_cons_succ]
          refine wpHB_ready (rs := [15]) (by kernel_rfl) (by simp) ?_
          refine AllHB.cons (by kernel_rfl) (o := ⟨none, _, _, _, _, _⟩) rfl (fun K hK => ?_) AllHB.nil
          rw [if_pos (by rfl)]
          refine wp_store_all 36 _ _ rfl _ 36 [] (pairA 0 0).toList [] (pairA 1 0).toList rfl rfl (gp.then_ (below_then hbb hbm)) rfl (by kernel_rfl) (by simp [Value.oneCell']) ?_
          intro w8 g8 U8
          refine hK.out _ _ (Lib.hid (hHeld.out.trans (U8.b _ lb))) (fun hHeld => ?_)
          clear hK K
          try simp only [Act.put]
          refine wpHB_tail (by kernel_rfl) (by kernel_rfl) ?_
          clear hdir hsel hpan
          simp only [opsAt, List.getElem?_toArray, List.getElem?_cons_succ, List.getElem?_cons_zero, Option.toList_some, List.cons_append, List.nil_append]
          go_wp2
          exact hdone.out _ _ _ _ _ _ _ _ _ _ _ _ _ _ _ _ _ ⟨_, _, _, _, rfl, rfl, rfl, g8, hlM, lb, hHeld.out⟩
        exact AllHB.nil
      refine AllHB.cons (by kernel_rfl) (o := ⟨some 16, _, _, _, _, _⟩) rfl (fun K hK => ?_) ?_
      · go_simp
        have lb := hHeld.out.size
        refine name_k ?_
        intro Vp hVp
        first | obtain ⟨gp, hbp⟩ := pair_new hVp | obtain ⟨gp, hbp⟩ := pair_new (W := w9.drew) hVp
        clear hVp
        refine hK.out _ _ (Lib.hid (below_then hHeld.out hbp)) (fun hHeld => ?_)
        clear hK K
        try simp only [Act.put, List.setIfInBounds_toArray, List.set_cons_zero, List.set_cons_succ]
        refine wpHB_ready (rs := [5, 7]) (by kernel_rfl) (by simp) ?_
        refine AllHB.cons (by kernel_rfl) (o := ⟨some 70, _, _, _, _, _⟩) rfl (fun K hK => ?_) ?_
        · go_simp
          refine name_k ?_
          intro Vb hVb
          obtain ⟨hqb, hbb⟩ := pats_new2 ⟨Pat.waive 1, pma⟩ ⟨Pat.waive 0, pmc⟩ hVb (hpa.then_ (below_then hbc hbp)) (hpc.then_ hbp)
          clear hVb
          first | replace hqb : Pats Vb (some ⟨w9.heap.size, 0, none⟩) _ := hqb | skip
          refine hK.out _ _ (Lib.hid (below_then hHeld.out hbb)) (fun hHeld => ?_)
          clear hK K
          try simp only [Act.put, List.setIfInBounds_toArray, List.set_cons_zero, List.set_cons_succ]
          refine wpHB_ready (rs := [7]) (by kernel_rfl) (by simp) ?_
          refine AllHB.cons (by kernel_rfl) (o := ⟨some 72, _, _, _, _, _⟩) rfl (fun K hK => ?_) AllHB.nil
          go_simp
          refine name_k ?_
          intro Vd hVd
          obtain ⟨hqd, hbd⟩ := pats_new ⟨Pat.repl 0 5, p5⟩ hVd (HP5.out.then_ hHeld.out)
          clear hVd
          first | replace hqd : Pats Vd (some ⟨w9.heap.size, 0, none⟩) _ := hqd | skip
          refine hK.out _ _ (Lib.hid (below_then hHeld.out hbd)) (fun hHeld => ?_)
          clear hK K
          try simp only [Act.put, List.setIfInBounds_toArray, List.set_cons_zero, List.set_cons_succ]
          refine wpHB_ready (rs := [8]) (by kernel_rfl) (by simp) ?_
          refine AllHB.cons (by kernel_rfl) (o := ⟨some 73, _, _, _, _, _⟩) rfl (fun K hK => ?_) AllHB.nil
          go_simp
          (go_at_call 13; (with_reducible refine (HM9.out pma pmc _ _ _ (HCO.out.then_ hHeld.out) (hqb.then_ hbd) (hqd.then_ (Below.refl _ _))).mono ?_); rintro e wm ⟨⟨AM, kM, M, rfl, hM, hqM, hlM⟩, hbm⟩)
          refine hK.out _ _ (Lib.hid (below_then hHeld.out hbm)) (fun hHeld => ?_)
          clear hK K
          try simp only [Act.put, List.setIfInBounds_toArray, List.set_cons_zero, List.set_cons_succ]
          refine wpHB_tk hdir hsel hpan (i := 9) (oi := ⟨some 64, _, _, _, _, _⟩) rfl (by kernel_rfl) (Or.inl ⟨by rfl, fun _ _ => by rfl⟩) hHeld ?_
          refine wpHB_tk hdir hsel hpan (i := 10) (oi := ⟨some 74, _, _, _, _, _⟩) rfl (by kernel_rfl) (Or.inl ⟨by rfl, fun _ _ => by rfl⟩) hHeld ?_
          refine wpHB_tk hdir hsel hpan (i := 11) (oi := ⟨some 75, _, _, _, _, _⟩) rfl (by kernel_rfl) (Or.inl ⟨by rfl, fun _ _ => by rfl⟩) hHeld ?_
          refine wpHB_tk hdir hsel hpan (i := 12) (oi := ⟨some 76, _, _, _, _, _⟩) rfl (by kernel_rfl) (Or.inl ⟨by rfl, fun _ _ => by rfl⟩) hHeld ?_
          refine wpHB_tk hdir hsel hpan (i := 14) (oi := ⟨some 15, _, _, _, _, _⟩) rfl (by kernel_rfl) (Or.inl ⟨by rfl, fun _ _ => by rfl⟩) hHeld ?_
          try simp only [Act.put, List.setIfInBounds_toArray, List.set_cons_zero, List.set_cons_succ]
          refine wpHB_ready (rs := [15]) (by kernel_rfl) (by simp) ?_
          refine AllHB.cons (by kernel_rfl) (o := ⟨none, _, _, _, _, _⟩) rfl (fun K hK => ?_) AllHB.nil
          rw [if_pos (by rfl)]
          refine wp_store_all 36 _ _ rfl _ 36 [] (pairA 0 0).toList [] (pairA 1 0).toList rfl rfl (gp.then_ (below_then hbb (below_then hbd hbm))) rfl (by kernel_rfl) (by simp [Value.oneCell']) ?_
          intro w8 g8 U8
          refine hK.out _ _ (Lib.hid (hHeld.out.trans (U8.b _ lb))) (fun hHeld => ?_)
          clear hK K
          try simp only [Act.put]
          refine wpHB_tail (by kernel_rfl) (by kernel_rfl) ?_
          clear hdir hsel hpan
          simp only [opsAt, List.getElem?_toArray, List.getElem?_cons_succ, List.getElem?_cons_zero, Option.toList_some, List.cons_append, List.nil_append]
          go_wp2
          exact hdone.out _ _ _ _ _ _ _ _ _ _ _ _ _ _ _ _ _ ⟨_, _, _, _, rfl, rfl, rfl, g8, hlM, lb, hHeld.out⟩
        refine AllHB.cons (by kernel_rfl) (o := ⟨some 72, _, _, _, _, _⟩) rfl (fun K hK => ?_) ?_
        · go_simp
          refine name_k ?_
          intro Vd hVd
          obtain ⟨hqd, hbd⟩ := pats_new ⟨Pat.repl 0 5, p5⟩ hVd (HP5.out.then_ hHeld.out)
          clear hVd
          first | replace hqd : Pats Vd (some ⟨w9.heap.size, 0, none⟩) _ := hqd | skip
          refine hK.out _ _ (Lib.hid (below_then hHeld.out hbd)) (fun hHeld => ?_)
          clear hK K
          try simp only [Act.put, List.setIfInBounds_toArray, List.set_cons_zero, List.set_cons_succ]
          refine wpHB_ready (rs := [5]) (by kernel_rfl) (by simp) ?_
          refine AllHB.cons (by kernel_rfl) (o := ⟨some 70, _, _, _, _, _⟩) rfl (fun K hK => ?_) AllHB.nil
          go_simp
          refine name_k ?_
          intro Vb hVb
          obtain ⟨hqb, hbb⟩ := pats_new2 ⟨Pat.waive 1, pma⟩ ⟨Pat.waive 0, pmc⟩ hVb (hpa.then_ (below_then hbc (below_then hbp hbd))) (hpc.then_ (below_then hbp hbd))
          clear hVb
          first | replace hqb : Pats Vb (some ⟨w9.heap.size, 0, none⟩) _ := hqb | skip
          refine hK.out _ _ (Lib.hid (below_then hHeld.out hbb)) (fun hHeld => ?_)
          clear hK K
          try simp only [Act.put, List.setIfInBounds_toArray, List.set_cons_zero, List.set_cons_succ]
          refine wpHB_ready (rs := [8]) (by kernel_rfl) (by simp) ?_
          refine AllHB.cons (by kernel_rfl) (o := ⟨some 73, _, _, _, _, _⟩) rfl (fun K hK => ?_) AllHB.nil
          go_simp
          (go_at_call 13; (with_reducible refine (HM9.out pma pmc _ _ _ (HCO.out.then_ hHeld.out) (hqb.then_ (Below.refl _ _)) (hqd.then_ hbb)).mono ?_); rintro e wm ⟨⟨AM, kM, M, rfl, hM, hqM, hlM⟩, hbm⟩)
          refine hK.out _ _ (Lib.hid (below_then hHeld.out hbm)) (fun hHeld => ?_)
          clear hK K
          try simp only [Act.put, List.setIfInBounds_toArray, List.set_cons_zero, List.set_cons_succ]
          refine wpHB_tk hdir hsel hpan (i := 9) (oi := ⟨some 64, _, _, _, _, _⟩) rfl (by kernel_rfl) (Or.inl ⟨by rfl, fun _ _ => by rfl⟩) hHeld ?_
          refine wpHB_tk hdir hsel hpan (i := 10) (oi := ⟨some 74, _, _, _, _, _⟩) rfl (by kernel_rfl) (Or.inl ⟨by rfl, fun _ _ => by rfl⟩) hHeld ?_
          refine wpHB_tk hdir hsel hpan (i := 11) (oi := ⟨some 75, _, _, _, _, _⟩) rfl (by kernel_rfl) (Or.inl ⟨by rfl, fun _ _ => by rfl⟩) hHeld ?_
          refine wpHB_tk hdir hsel hpan (i := 12) (oi := ⟨some 76, _, _, _, _, _⟩) rfl (by kernel_rfl) (Or.inl ⟨by rfl, fun _ _ => by rfl⟩) hHeld ?_
          refine wpHB_tk hdir hsel hpan (i := 14) (oi := ⟨some 15, _, _, _, _, _⟩) rfl (by kernel_rfl) (Or.inl ⟨by rfl, fun _ _ => by rfl⟩) hHeld ?_
          try simp only [Act.put, List.setIfInBounds_toArray, List.set_cons_zero, List.set_cons_succ]
          refine wpHB_ready (rs := [15]) (by kernel_rfl) (by simp) ?_
          refine AllHB.cons (by kernel_rfl) (o := ⟨none, _, _, _, _, _⟩) rfl (fun K hK => ?_) AllHB.nil
          rw [if_pos (by rfl)]
          refine wp_store_all 36 _ _ rfl _ 36 [] (pairA 0 0).toList [] (pairA 1 0).toList rfl rfl (gp.then_ (below_then hbd (below_then hbb hbm))) rfl (by kernel_rfl) (by simp [Value.oneCell']) ?_
          intro w8 g8 U8
          refine hK.out _ _ (Lib.hid (hHeld.out.trans (U8.b _ lb))) (fun hHeld => ?_)
          clear hK K
          try simp only [Act.put]
          refine wpHB_tail (by kernel_rfl) (by kernel_rfl) ?_
          clear hdir hsel hpan
          simp only [opsAt, List.getElem?_toArray, List.getElem?_cons_succ, List.getElem?_cons_zero, Option.toList_some, List.cons_append, List.nil_append]
          go_wp2
          exact hdone.out _ _ _ _ _ _ _ _ _ _ _ _ _ _ _ _ _ ⟨_, _, _, _, rfl, rfl, rfl, g8, hlM, lb, hHeld.out⟩
        exact AllHB.nil
      exact AllHB.nil
    refine AllHB.cons (by kernel_rfl) (o := ⟨some 72, _, _, _, _, _⟩) rfl (fun K hK => ?_) ?_
    · go_simp
      refine name_k ?_
      intro Vd hVd
      obtain ⟨hqd, hbd⟩ := pats_new ⟨Pat.repl 0 5, p5⟩ hVd (HP5.out.then_ hHeld.out)
      clear hVd
      first | replace hqd : Pats Vd (some ⟨w9.heap.size, 0, none⟩) _ := hqd | skip
      refine hK.out _ _ (Lib.hid (below_then hHeld.out hbd)) (fun hHeld => ?_)
      clear hK K
      try simp only [Act.put, List.setIfInBounds_toArray, List.set_cons_zero, List.set_cons_succ]
      refine wpHB_ready (rs := [4, 13]) (by kernel_rfl) (by simp) ?_
      refine AllHB.cons (by kernel_rfl) (o := ⟨some 69, _, _, _, _, _⟩) rfl (fun K hK => ?_) ?_
      · go_simp
        (go_at_call 22; (with_reducible refine (HW.out _ _).mono ?_); rintro e wd ⟨⟨pmc, rfl, hpc, _⟩, hbc⟩)
        refine hK.out _ _ (Lib.hid (below_then hHeld.out hbc)) (fun hHeld => ?_)
        clear hK K
        try simp only [Act.put, List.setIfInBounds_toArray, List.set_cons_zero, List.set_cons_succ]
        refine wpHB_ready (rs := [5, 13]) (by kernel_rfl) (by simp) ?_
        refine AllHB.cons (by kernel_rfl) (o := ⟨some 70, _, _, _, _, _⟩) rfl (fun K hK => ?_) ?_
        · go_simp
          refine name_k ?_
          intro Vb hVb
          obtain ⟨hqb, hbb⟩ := pats_new2 ⟨Pat.waive 1, pma⟩ ⟨Pat.waive 0, pmc⟩ hVb (hpa.then_ (below_then hbd hbc)) (hpc.then_ (Below.refl _ _))
          clear hVb
          first | replace hqb : Pats Vb (some ⟨w9.heap.size, 0, none⟩) _ := hqb | skip
          refine hK.out _ _ (Lib.hid (below_then hHeld.out hbb)) (fun hHeld => ?_)
          clear hK K
          try simp only [Act.put, List.setIfInBounds_toArray, List.set_cons_zero, List.set_cons_succ]
          refine wpHB_ready (rs := [8, 13]) (by kernel_rfl) (by simp) ?_
          refine AllHB.cons (by kernel_rfl) (o := ⟨some 73, _, _, _, _, _⟩) rfl (fun K hK => ?_) ?_
          · go_simp
            (go_at_call 13; (with_reducible refine (HM9.out pma pmc _ _ _ (HCO.out.then_ hHeld.out) (hqb.then_ (Below.refl _ _)) (hqd.then_ (below_then hbc hbb))).mono ?_); rintro e wm ⟨⟨AM, kM, M, rfl, hM, hqM, hlM⟩, hbm⟩)
            refine hK.out _ _ (Lib.hid (below_then hHeld.out hbm)) (fun hHeld => ?_)
            clear hK K
            try simp only [Act.put, List.setIfInBounds_toArray, List.set_cons_zero, List.set_cons_succ]
            refine wpHB_tk hdir hsel hpan (i := 9) (oi := ⟨some 64, _, _, _, _, _⟩) rfl (by kernel_rfl) (Or.inl ⟨by rfl, fun _ _ => by rfl⟩) hHeld ?_
            refine wpHB_tk hdir hsel hpan (i := 10) (oi := ⟨some 74, _, _, _, _, _⟩) rfl (by kernel_rfl) (Or.inl ⟨by rfl, fun _ _ => by rfl⟩) hHeld ?_
            refine wpHB_tk hdir hsel hpan (i := 11) (oi := ⟨some 75, _, _, _, _, _⟩) rfl (by kernel_rfl) (Or.inl ⟨by rfl, fun _ _ => by rfl⟩) hHeld ?_
            refine wpHB_tk hdir hsel hpan (i := 12) (oi := ⟨some 76, _, _, _, _, _⟩) rfl (by kernel_rfl) (Or.inl ⟨by rfl, fun _ _ => by rfl⟩) hHeld ?_
            try simp only [Act.put, List.setIfInBounds_toArray, List.set_cons_zero, List.set_cons_succ]
            refine wpHB_ready (rs := [13]) (by kernel_rfl) (by simp) ?_
            refine AllHB.cons (by kernel_rfl) (o := ⟨some 16, _, _, _, _, _⟩) rfl (fun K hK => ?_) AllHB.nil
            go_simp
            have lb := hHeld.out.size
            refine name_k ?_
            intro Vp hVp
            first | obtain ⟨gp, hbp⟩ := pair_new hVp | obtain ⟨gp, hbp⟩ := pair_new (W := w9.drew) hVp
            clear hVp
            refine hK.out _ _ (Lib.hid (below_then hHeld.out hbp)) (fun hHeld => ?_)
            clear hK K
            try simp only [Act.put, List.setIfInBounds_toArray, List.set_cons_zero, List.set_cons_succ]
            refine wpHB_tk hdir hsel hpan (i := 14) (oi := ⟨some 15, _, _, _, _, _⟩) rfl (by kernel_rfl) (Or.inl ⟨by rfl, fun _ _ => by rfl⟩) hHeld ?_
            try simp only [Act.put, List.setIfInBounds_toArray, List.set_cons_zero, List.set_cons_succ]
            refine wpHB_ready (rs := [15]) (by kernel_rfl) (by simp) ?_
            refine AllHB.cons (by kernel_rfl) (o := ⟨none, _, _, _, _, _⟩) rfl (fun K hK => ?_) AllHB.nil
            rw [if_pos (by rfl)]
            refine wp_store_all 36 _ _ rfl _ 36 [] (pairA 0 0).toList [] (pairA 1 0).toList rfl rfl (gp.then_ (Below.refl _ _)) rfl (by kernel_rfl) (by simp [Value.oneCell']) ?_
            intro w8 g8 U8
            refine hK.out _ _ (Lib.hid (hHeld.out.trans (U8.b _ lb))) (fun hHeld => ?_)
            clear hK K
            try simp only [Act.put]
            refine wpHB_tail (by kernel_rfl) (by kernel_rfl) ?_
            clear hdir hsel hpan
            simp only [opsAt, List.getElem?_toArray, List.getElem?_cons_succ, List.getElem?_cons_zero, Option.toList_some, List.cons_append, List.nil_append]
            go_wp2
            exact hdone.out _ _ _ _ _ _ _ _ _ _ _ _ _ _ _ _ _ ⟨_, _, _, _, rfl, rfl, rfl, g8, hlM, lb, hHeld.out⟩
          refine AllHB.cons (by kernel_rfl) (o := ⟨some 16, _, _, _, _, _⟩) rfl (fun K hK => ?_) ?_
          · go_simp
            have lb := hHeld.out.size
            refine name_k ?_
            intro Vp hVp
            first | obtain ⟨gp, hbp⟩ := pair_new hVp | obtain ⟨gp, hbp⟩ := pair_new (W := w9.drew) hVp
            clear hVp
            refine hK.out _ _ (Lib.hid (below_then hHeld.out hbp)) (fun hHeld => ?_)
            clear hK K
            try simp only [Act.put, List.setIfInBounds_toArray, List.set_cons_zero, List.set_cons_succ]
            refine wpHB_ready (rs := [8]) (by kernel_rfl) (by simp) ?_
            refine AllHB.cons (by kernel_rfl) (o := ⟨some 73, _, _, _, _, _⟩) rfl (fun K hK => ?_) AllHB.nil
            go_simp
            (go_at_call 13; (with_reducible refine (HM9.out pma pmc _ _ _ (HCO.out.then_ hHeld.out) (hqb.then_ hbp) (hqd.then_ (below_then hbc (below_then hbb hbp)))).mono ?_); rintro e wm ⟨⟨AM, kM, M, rfl, hM, hqM, hlM⟩, hbm⟩)
            refine hK.out _ _ (Lib.hid (below_then hHeld.out hbm)) (fun hHeld => ?_)
            clear hK K
            try simp only [Act.put, List.setIfInBounds_toArray, List.set_cons_zero, List.set_cons_succ]
            refine wpHB_tk hdir hsel hpan (i := 9) (oi := ⟨some 64, _, _, _, _, _⟩) rfl (by kernel_rfl) (Or.inl ⟨by rfl, fun _ _ => by rfl⟩) hHeld ?_
            refine wpHB_tk hdir hsel hpan (i := 10) (oi := ⟨some 74, _, _, _, _, _⟩) rfl (by kernel_rfl) (Or.inl ⟨by rfl, fun _ _ => by rfl⟩) hHeld ?_
            refine wpHB_tk hdir hsel hpan (i := 11) (oi := ⟨some 75, _, _, _, _, _⟩) rfl (by kernel_rfl) (Or.inl ⟨by rfl, fun _ _ => by rfl⟩) hHeld ?_
            refine wpHB_tk hdir hsel hpan (i := 12) (oi := ⟨some 76, _, _, _, _, _⟩) rfl (by kernel_rfl) (Or.inl ⟨by rfl, fun _ _ => by rfl⟩) hHeld ?_
            refine wpHB_tk hdir hsel hpan (i := 14) (oi := ⟨some 15, _, _, _, _, _⟩) rfl (by kernel_rfl) (Or.inl ⟨by rfl, fun _ _ => by rfl⟩) hHeld ?_
            try simp only [Act.put, List.setIfInBounds_toArray, List.set_cons_zero, List.set_cons_succ]
            refine wpHB_ready (rs := [15]) (by kernel_rfl) (by simp) ?_
            refine AllHB.cons (by kernel_rfl) (o := ⟨none, _, _, _, _, _⟩) rfl (fun K hK => ?_) AllHB.nil
            rw [if_pos (by rfl)]
            refine wp_store_all 36 _ _ rfl _ 36 [] (pairA 0 0).toList [] (pairA 1 0).toList rfl rfl (gp.then_ hbm) rfl (by kernel_rfl) (by simp [Value.oneCell']) ?_
            intro w8 g8 U8
            refine hK.out _ _ (Lib.hid (hHeld.out.trans (U8.b _ lb))) (fun hHeld => ?_)
            clear hK K
            try simp only [Act.put]
            refine wpHB_tail (by kernel_rfl) (by kernel_rfl) ?_
            clear hdir hsel hpan
            simp only [opsAt, List.getElem?_toArray, List.getElem?_cons_succ, List.getElem?_cons_zero, Option.toList_some, List.cons_append, List.nil_append]
            go_wp2
            exact hdone.out _ _ _ _ _ _ _ _ _ _ _ _ _ _ _ _ _ ⟨_, _, _, _, rfl, rfl, rfl, g8, hlM, lb, hHeld.out⟩
          exact AllHB.nil
        refine AllHB.cons (by kernel_rfl) (o := ⟨some 16, _, _, _, _, _⟩) rfl (fun K hK => ?_) ?_
        · go_simp
          have lb := hHeld.out.size
          refine name_k ?_
          intro Vp hVp
          first | obtain ⟨gp, hbp⟩ := pair_new hVp | obtain ⟨gp, hbp⟩ := pair_new (W := w9.drew) hVp
          clear hVp
          refine hK.out _ _ (Lib.hid (below_then hHeld.out hbp)) (fun hHeld => ?_)
          clear hK K
          try simp only [Act.put, List.setIfInBounds_toArray, List.set_cons_zero, List.set_cons_succ]
          refine wpHB_ready (rs := [5]) (by kernel_rfl) (by simp) ?_
          refine AllHB.cons (by kernel_rfl) (o := ⟨some 70, _, _, _, _, _⟩) rfl (fun K hK => ?_) AllHB.nil
          go_simp
          refine name_k ?_
          intro Vb hVb
          obtain ⟨hqb, hbb⟩ := pats_new2 ⟨Pat.waive 1, pma⟩ ⟨Pat.waive 0, pmc⟩ hVb (hpa.then_ (below_then hbd (below_then hbc hbp))) (hpc.then_ hbp)
          clear hVb
          first | replace hqb : Pats Vb (some ⟨w9.heap.size, 0, none⟩) _ := hqb | skip
          refine hK.out _ _ (Lib.hid (below_then hHeld.out hbb)) (fun hHeld => ?_)
          clear hK K
          try simp only [Act.put, List.setIfInBounds_toArray, List.set_cons_zero, List.set_cons_succ]
          refine wpHB_ready (rs := [8]) (by kernel_rfl) (by simp) ?_
          refine AllHB.cons (by kernel_rfl) (o := ⟨some 73, _, _, _, _, _⟩) rfl (fun K hK => ?_) AllHB.nil
          go_simp
          (go_at_call 13; (with_reducible refine (HM9.out pma pmc _ _ _ (HCO.out.then_ hHeld.out) (hqb.then_ (Below.refl _ _)) (hqd.then_ (below_then hbc (below_then hbp hbb)))).mono ?_); rintro e wm ⟨⟨AM, kM, M, rfl, hM, hqM, hlM⟩, hbm⟩)
          refine hK.out _ _ (Lib.hid (below_then hHeld.out hbm)) (fun hHeld => ?_)
          clear hK K
          try simp only [Act.put, List.setIfInBounds_toArray, List.set_cons_zero, List.set_cons_succ]
          refine wpHB_tk hdir hsel hpan (i := 9) (oi := ⟨some 64, _, _, _, _, _⟩) rfl (by kernel_rfl) (Or.inl ⟨by rfl, fun _ _ => by rfl⟩) hHeld ?_
          refine wpHB_tk hdir hsel hpan (i := 10) (oi := ⟨some 74, _, _, _, _, _⟩) rfl (by kernel_rfl) (Or.inl ⟨by rfl, fun _ _ => by rfl⟩) hHeld ?_
          refine wpHB_tk hdir hsel hpan (i := 11) (oi := ⟨some 75, _, _, _, _, _⟩) rfl (by kernel_rfl) (Or.inl ⟨by rfl, fun _ _ => by rfl⟩) hHeld ?_
          refine wpHB_tk hdir hsel hpan (i := 12) (oi := ⟨some 76, _, _, _, _, _⟩) rfl (by kernel_rfl) (Or.inl ⟨by rfl, fun _ _ => by rfl⟩) hHeld ?_
          refine wpHB_tk hdir hsel hpan (i := 14) (oi := ⟨some 15, _, _, _, _, _⟩) rfl (by kernel_rfl) (Or.inl ⟨by rfl, fun _ _ => by rfl⟩) hHeld ?_
          try simp only [Act.put, List.setIfInBounds_toArray, List.set_cons_zero, List.set_cons_succ]
          refine wpHB_ready (rs := [15]) (by kernel_rfl) (by simp) ?_
          refine AllHB.cons (by kernel_rfl) (o := ⟨none, _, _, _, _, _⟩) rfl (fun K hK => ?_) AllHB.nil
          rw [if_pos (by rfl)]
          refine wp_store_all 36 _ _ rfl _ 36 [] (pairA 0 0).toList [] (pairA 1 0).toList rfl rfl (gp.then_ (below_then hbb hbm)) rfl (by kernel_rfl) (by simp [Value.oneCell']) ?_
          intro w8 g8 U8
          refine hK.out _ _ (Lib.hid (hHeld.out.trans (U8.b _ lb))) (fun hHeld => ?_)
          clear hK K
          try simp only [Act.put]
          refine wpHB_tail (by kernel_rfl) (by kernel_rfl) ?_
          clear hdir hsel hpan
          simp only [opsAt, List.getElem?_toArray, List.getElem?_cons_succ, List.getElem?_cons_zero, Option.toList_some, List.cons_append, List.nil_append]
          go_wp2
          exact hdone.out _ _ _ _ _ _ _ _ _ _ _ _ _ _ _ _ _ ⟨_, _, _, _, rfl, rfl, rfl, g8, hlM, lb, hHeld.out⟩
        exact AllHB.nil
      refine AllHB.cons (by kernel_rfl) (o := ⟨some 16, _, _, _, _, _⟩) rfl (fun K hK => ?_) ?_
      · go_simp
        have lb := hHeld.out.size
        refine name_k ?_
        intro Vp hVp
        first | obtain ⟨gp, hbp⟩ := pair_new hVp | obtain ⟨gp, hbp⟩ := pair_new (W := w9.drew) hVp
        clear hVp
        refine hK.out _ _ (Lib.hid (below_then hHeld.out hbp)) (fun hHeld => ?_)
        clear hK K
        try simp only [Act.put, List.setIfInBounds_toArray, List.set_cons_zero, List.set_cons_succ]
        refine wpHB_ready (rs := [4]) (by kernel_rfl) (by simp) ?_
        refine AllHB.cons (by kernel_rfl) (o := ⟨some 69, _, _, _, _, _⟩) rfl (fun K hK => ?_) AllHB.nil
        go_simp
        (go_at_call 22; (with_reducible refine (HW.out _ _).mono ?_); rintro e wd ⟨⟨pmc, rfl, hpc, _⟩, hbc⟩)
        refine hK.out _ _ (Lib.hid (below_then hHeld.out hbc)) (fun hHeld => ?_)
        clear hK K
        try simp only [Act.put, List.setIfInBounds_toArray, List.set_cons_zero, List.set_cons_succ]
        refine wpHB_ready (rs := [5]) (by kernel_rfl) (by simp) ?_
        refine AllHB.cons (by kernel_rfl) (o := ⟨some 70, _, _, _, _, _⟩) rfl (fun K hK => ?_) AllHB.nil
        go_simp
        refine name_k ?_
        intro Vb hVb
        obtain ⟨hqb, hbb⟩ := pats_new2 ⟨Pat.waive 1, pma⟩ ⟨Pat.waive 0, pmc⟩ hVb (hpa.then_ (below_then hbd (below_then hbp hbc))) (hpc.then_ (Below.refl _ _))
        clear hVb
        first | replace hqb : Pats Vb (some ⟨w9.heap.size, 0, none⟩) _ := hqb | skip
        refine hK.out _ _ (Lib.hid (below_then hHeld.out hbb)) (fun hHeld => ?_)
        clear hK K
        try simp only [Act.put, List.setIfInBounds_toArray, List.set_cons_zero, List.set_cons_succ]
        refine wpHB_ready (rs := [8]) (by kernel_rfl) (by simp) ?_
        refine AllHB.cons (by kernel_rfl) (o := ⟨some 73, _, _, _, _, _⟩) rfl (fun K hK => ?_) AllHB.nil
        go_simp
        (go_at_call 13; (with_reducible refine (HM9.out pma pmc _ _ _ (HCO.out.then_ hHeld.out) (hqb.then_ (Below.refl _ _)) (hqd.then_ (below_then hbp (below_then hbc hbb)))).mono ?_); rintro e wm ⟨⟨AM, kM, M, rfl, hM, hqM, hlM⟩, hbm⟩)
        refine hK.out _ _ (Lib.hid (below_then hHeld.out hbm)) (fun hHeld => ?_)
        clear hK K
        try simp only [Act.put, List.setIfInBounds_toArray, List.set_cons_zero, List.set_cons_succ]
        refine wpHB_tk hdir hsel hpan (i := 9) (oi := ⟨some 64, _, _, _, _, _⟩) rfl (by kernel_rfl) (Or.inl ⟨by rfl, fun _ _ => by rfl⟩) hHeld ?_
        refine wpHB_tk hdir hsel hpan (i := 10) (oi := ⟨some 74, _, _, _, _, _⟩) rfl (by kernel_rfl) (Or.inl ⟨by rfl, fun _ _ => by rfl⟩) hHeld ?_
        refine wpHB_tk hdir hsel hpan (i := 11) (oi := ⟨some 75, _, _, _, _, _⟩) rfl (by kernel_rfl) (Or.inl ⟨by rfl, fun _ _ => by rfl⟩) hHeld ?_
        refine wpHB_tk hdir hsel hpan (i := 12) (oi := ⟨some 76, _, _, _, _, _⟩) rfl (by kernel_rfl) (Or.inl ⟨by rfl, fun _ _ => by rfl⟩) hHeld ?_
        refine wpHB_tk hdir hsel hpan (i := 14) (oi := ⟨some 15, _, _, _, _, _⟩) rfl (by kernel_rfl) (Or.inl ⟨by rfl, fun _ _ => by rfl⟩) hHeld ?_
        try simp only [Act.put, List.setIfInBounds_toArray, List.set_cons_zero, List.set_cons_succ]
        refine wpHB_ready (rs := [15]) (by kernel_rfl) (by simp) ?_
        refine AllHB.cons (by kernel_rfl) (o := ⟨none, _, _, _, _, _⟩) rfl (fun K hK => ?_) AllHB.nil
        rw [if_pos (by rfl)]
        refine wp_store_all 36 _ _ rfl _ 36 [] (pairA 0 0).toList [] (pairA 1 0).toList rfl rfl (gp.then_ (below_then hbc (below_then hbb hbm))) rfl (by kernel_rfl) (by simp [Value.oneCell']) ?_
        intro w8 g8 U8
        refine hK.out _ _ (Lib.hid (hHeld.out.trans (U8.b _ lb))) (fun hHeld => ?_)
        clear hK K
        try simp only [Act.put]
        refine wpHB_tail (by kernel_rfl) (by kernel_rfl) ?_
        clear hdir hsel hpan
        simp only [opsAt, List.getElem?_toArray, List.getElem?_cons_succ, List.getElem?_cons_zero, Option.toList_some, List.cons_append, List.nil_append]
        go_wp2
        exact hdone.out _ _ _ _ _ _ _ _ _ _ _ _ _ _ _ _ _ ⟨_, _, _, _, rfl, rfl, rfl, g8, hlM, lb, hHeld.out⟩
      exact AllHB.nil
    refine AllHB.cons (by kernel_rfl) (o := ⟨some 16, _, _, _, _, _⟩) rfl (fun K hK => ?_) ?_
    · go_simp
      have lb := hHeld.out.size
      refine name_k ?_
      intro Vp hVp
      first | obtain ⟨gp, hbp⟩ := pair_new hVp | obtain ⟨gp, hbp⟩ := pair_new (W := w9.drew) hVp
      clear hVp
      refine hK.out _ _ (Lib.hid (below_then hHeld.out hbp)) (fun hHeld => ?_)
      clear hK K
      try simp only [Act.put, List.setIfInBounds_toArray, List.set_cons_zero, List.set_cons_succ]
      refine wpHB_ready (rs := [4, 7]) (by kernel_rfl) (by simp) ?_
      refine AllHB.cons (by kernel_rfl) (o := ⟨some 69, _, _, _, _, _⟩) rfl (fun K hK => ?_) ?_
      · go_simp
        (go_at_call 22; (with_reducible refine (HW.out _ _).mono ?_); rintro e wd ⟨⟨pmc, rfl, hpc, _⟩, hbc⟩)
        refine hK.out _ _ (Lib.hid (below_then hHeld.out hbc)) (fun hHeld => ?_)
        clear hK K
        try simp only [Act.put, List.setIfInBounds_toArray, List.set_cons_zero, List.set_cons_succ]
        refine wpHB_ready (rs := [5, 7]) (by kernel_rfl) (by simp) ?_
        refine AllHB.cons (by kernel_rfl) (o := ⟨some 70, _, _, _, _, _⟩) rfl (fun K hK => ?_) ?_
        · go_simp
          refine name_k ?_
          intro Vb hVb
          obtain ⟨hqb, hbb⟩ := pats_new2 ⟨Pat.waive 1, pma⟩ ⟨Pat.waive 0, pmc⟩ hVb (hpa.then_ (below_then hbp hbc)) (hpc.then_ (Below.refl _ _))
          clear hVb
          first | replace hqb : Pats Vb (some ⟨w9.heap.size, 0, none⟩) _ := hqb | skip
          refine hK.out _ _ (Lib.hid (below_then hHeld.out hbb)) (fun hHeld => ?_)
          clear hK K
          try simp only [Act.put, List.setIfInBounds_toArray, List.set_cons_zero, List.set_cons_succ]
          refine wpHB_ready (rs := [7]) (by kernel_rfl) (by simp) ?_
          refine AllHB.cons (by kernel_rfl) (o := ⟨some 72, _, _, _, _, _⟩) rfl (fun K hK => ?_) AllHB.nil
          go_simp
          refine name_k ?_
          intro Vd hVd
          obtain ⟨hqd, hbd⟩ := pats_new ⟨Pat.repl 0 5, p5⟩ hVd (HP5.out.then_ hHeld.out)
          clear hVd
          first | replace hqd : Pats Vd (some ⟨w9.heap.size, 0, none⟩) _ := hqd | skip
          refine hK.out _ _ (Lib.hid (below_then hHeld.out hbd)) (fun hHeld => ?_)
          clear hK K
          try simp only [Act.put, List.setIfInBounds_toArray, List.set_cons_zero, List.set_cons_succ]
          refine wpHB_ready (rs := [8]) (by kernel_rfl) (by simp) ?_
          refine AllHB.cons (by kernel_rfl) (o := ⟨some 73, _, _, _, _, _⟩) rfl (fun K hK => ?_) AllHB.nil
          go_simp
          (go_at_call 13; (with_reducible refine (HM9.out pma pmc _ _ _ (HCO.out.then_ hHeld.out) (hqb.then_ hbd) (hqd.then_ (Below.refl _ _))).mono ?_); rintro e wm ⟨⟨AM, kM, M, rfl, hM, hqM, hlM⟩, hbm⟩)
          refine hK.out _ _ (Lib.hid (below_then hHeld.out hbm)) (fun hHeld => ?_)
          clear hK K
          try simp only [Act.put, List.setIfInBounds_toArray, List.set_cons_zero, List.set_cons_succ]
          refine wpHB_tk hdir hsel hpan (i := 9) (oi := ⟨some 64, _, _, _, _, _⟩) rfl (by kernel_rfl) (Or.inl ⟨by rfl, fun _ _ => by rfl⟩) hHeld ?_
          refine wpHB_tk hdir hsel hpan (i := 10) (oi := ⟨some 74, _, _, _, _, _⟩) rfl (by kernel_rfl) (Or.inl ⟨by rfl, fun _ _ => by rfl⟩) hHeld ?_
          refine wpHB_tk hdir hsel hpan (i := 11) (oi := ⟨some 75, _, _, _, _, _⟩) rfl (by kernel_rfl) (Or.inl ⟨by rfl, fun _ _ => by rfl⟩) hHeld ?_
          refine wpHB_tk hdir hsel hpan (i := 12) (oi := ⟨some 76, _, _, _, _, _⟩) rfl (by kernel_rfl) (Or.inl ⟨by rfl, fun _ _ => by rfl⟩) hHeld ?_
          refine wpHB_tk hdir hsel hpan (i := 14) (oi := ⟨some 15, _, _, _, _, _⟩) rfl (by kernel_rfl) (Or.inl ⟨by rfl, fun _ _ => by rfl⟩) hHeld ?_
          try simp only [Act.put, List.setIfInBounds_toArray, List.set_cons_zero, List.set_cons_succ]
          refine wpHB_ready (rs := [15]) (by kernel_rfl) (by simp) ?_
          refine AllHB.cons (by kernel_rfl) (o := ⟨none, _, _, _, _, _⟩) rfl (fun K hK => ?_) AllHB.nil
          rw [if_pos (by rfl)]
          refine wp_store_all 36 _ _ rfl _ 36 [] (pairA 0 0).toList [] (pairA 1 0).toList rfl rfl (gp.then_ (below_then hbc (below_then hbb (below_then hbd hbm)))) rfl (by kernel_rfl) (by simp [Value.oneCell']) ?_
          intro w8 g8 U8
          refine hK.out _ _ (Lib.hid (hHeld.out.trans (U8.b _ lb))) (fun hHeld => ?_)
          clear hK K
          try simp only [Act.put]
          refine wpHB_tail (by kernel_rfl) (by kernel_rfl) ?_
          clear hdir hsel hpan
          simp only [opsAt, List.getElem?_toArray, List.getElem?_cons_succ, List.getElem?_cons_zero, Option.toList_some, List.cons_append, List.nil_append]
          go_wp2
          exact hdone.out _ _ _ _ _ _ _ _ _ _ _ _ _ _ _ _ _ ⟨_, _, _, _, rfl, rfl, rfl, g8, hlM, lb, hHeld.out⟩
        refine AllHB.cons (by kernel_rfl) (o := ⟨some 72, _, _, _, _, _⟩) rfl (fun K hK => ?_) ?_
        · go_simp
          refine name_k ?_
          intro Vd hVd
          obtain ⟨hqd, hbd⟩ := pats_new ⟨Pat.repl 0 5, p5⟩ hVd (HP5.out.then_ hHeld.out)
          clear hVd
          first | replace hqd : Pats Vd (some ⟨w9.heap.size, 0, none⟩) _ := hqd | skip
          refine hK.out _ _ (Lib.hid (below_then hHeld.out hbd)) (fun hHeld => ?_)
          clear hK K
          try simp only [Act.put, List.setIfInBounds_toArray, List.set_cons_zero, List.set_cons_succ]
          refine wpHB_ready (rs := [5]) (by kernel_rfl) (by simp) ?_
          refine AllHB.cons (by kernel_rfl) (o := ⟨some 70, _, _, _, _, _⟩) rfl (fun K hK => ?_) AllHB.nil
          go_simp
          refine name_k ?_
          intro Vb hVb
          obtain ⟨hqb, hbb⟩ := pats_new2 ⟨Pat.waive 1, pma⟩ ⟨Pat.waive 0, pmc⟩ hVb (hpa.then_ (below_then hbp (below_then hbc hbd))) (hpc.then_ hbd)
          clear hVb
          first | replace hqb : Pats Vb (some ⟨w9.heap.size, 0, none⟩) _ := hqb | skip
          refine hK.out _ _ (Lib.hid (below_then hHeld.out hbb)) (fun hHeld => ?_)
          clear hK K
          try simp only [Act.put, List.setIfInBounds_toArray, List.set_cons_zero, List.set_cons_succ]
          refine wpHB_ready (rs := [8]) (by kernel_rfl) (by simp) ?_
          refine AllHB.cons (by kernel_rfl) (o := ⟨some 73, _, _, _, _, _⟩) rfl (fun K hK => ?_) AllHB.nil
          go_simp
          (go_at_call 13; (with_reducible refine (HM9.out pma pmc _ _ _ (HCO.out.then_ hHeld.out) (hqb.then_ (Below.refl _ _)) (hqd.then_ hbb)).mono ?_); rintro e wm ⟨⟨AM, kM, M, rfl, hM, hqM, hlM⟩, hbm⟩)
          refine hK.out _ _ (Lib.hid (below_then hHeld.out hbm)) (fun hHeld => ?_)
          clear hK K
          try simp only [Act.put, List.setIfInBounds_toArray, List.set_cons_zero, List.set_cons_succ]
          refine wpHB_tk hdir hsel hpan (i := 9) (oi := ⟨some 64, _, _, _, _, _⟩) rfl (by kernel_rfl) (Or.inl ⟨by rfl, fun _ _ => by rfl⟩) hHeld ?_
          refine wpHB_tk hdir hsel hpan (i := 10) (oi := ⟨some 74, _, _, _, _, _⟩) rfl (by kernel_rfl) (Or.inl ⟨by rfl, fun _ _ => by rfl⟩) hHeld ?_
          refine wpHB_tk hdir hsel hpan (i := 11) (oi := ⟨some 75, _, _, _, _, _⟩) rfl (by kernel_rfl) (Or.inl ⟨by rfl, fun _ _ => by rfl⟩) hHeld ?_
          refine wpHB_tk hdir hsel hpan (i := 12) (oi := ⟨some 76, _, _, _, _, _⟩) rfl (by kernel_rfl) (Or.inl ⟨by rfl, fun _ _ => by rfl⟩) hHeld ?_
          refine wpHB_tk hdir hsel hpan (i := 14) (oi := ⟨some 15, _, _, _, _, _⟩) rfl (by kernel_rfl) (Or.inl ⟨by rfl, fun _ _ => by rfl⟩) hHeld ?_
          try simp only [Act.put, List.setIfInBounds_toArray, List.set_cons_zero, List.set_cons_succ]
          refine wpHB_ready (rs := [15]) (by kernel_rfl) (by simp) ?_
          refine AllHB.cons (by kernel_rfl) (o := ⟨none, _, _, _, _, _⟩) rfl (fun K hK => ?_) AllHB.nil
          rw [if_pos (by rfl)]
          refine wp_store_all 36 _ _ rfl _ 36 [] (pairA 0 0).toList [] (pairA 1 0).toList rfl rfl (gp.then_ (below_then hbc (below_then hbd (below_then hbb hbm)))) rfl (by kernel_rfl) (by simp [Value.oneCell']) ?_
          intro w8 g8 U8
          refine hK.out _ _ (Lib.hid (hHeld.out.trans (U8.b _ lb))) (fun hHeld => ?_)
          clear hK K
          try simp only [Act.put]
          refine wpHB_tail (by kernel_rfl) (by kernel_rfl) ?_
          clear hdir hsel hpan
          simp only [opsAt, List.getElem?_toArray, List.getElem?_cons_succ, List.getElem?_cons_zero, Option.toList_some, List.cons_append, List.nil_append]
          go_wp2
          exact hdone.out _ _ _ _ _ _ _ _ _ _ _ _ _ _ _ _ _ ⟨_, _, _, _, rfl, rfl, rfl, g8, hlM, lb, hHeld.out⟩
        exact AllHB.nil
      refine AllHB.cons (by kernel_rfl) (o := ⟨some 72, _, _, _, _, _⟩) rfl (fun K hK => ?_) ?_
      · go_simp
        refine name_k ?_
        intro Vd hVd
        obtain ⟨hqd, hbd⟩ := pats_new ⟨Pat.repl 0 5, p5⟩ hVd (HP5.out.then_ hHeld.out)
        clear hVd
        first | replace hqd : Pats Vd (some ⟨w9.heap.size, 0, none⟩) _ := hqd | skip
        refine hK.out _ _ (Lib.hid (below_then hHeld.out hbd)) (fun hHeld => ?_)
        clear hK K
        try simp only [Act.put, List.setIfInBounds_toArray, List.set_cons_zero, List.set_cons_succ]
        refine wpHB_ready (rs := [4]) (by kernel_rfl) (by simp) ?_
        refine AllHB.cons (by kernel_rfl) (o := ⟨some 69, _, _, _, _, _⟩) rfl (fun K hK => ?_) AllHB.nil
        go_simp
        (go_at_call 22; (with_reducible refine (HW.out _ _).mono ?_); rintro e wd ⟨⟨pmc, rfl, hpc, _⟩, hbc⟩)
        refine hK.out _ _ (Lib.hid (below_then hHeld.out hbc)) (fun hHeld => ?_)
        clear hK K
        try simp only [Act.put, List.setIfInBounds_toArray, List.set_cons_zero, List.set_cons_succ]
        refine wpHB_ready (rs := [5]) (by kernel_rfl) (by simp) ?_
        refine AllHB.cons (by kernel_rfl) (o := ⟨some 70, _, _, _, _, _⟩) rfl (fun K hK => ?_) AllHB.nil
        go_simp
        refine name_k ?_
        intro Vb hVb
        obtain ⟨hqb, hbb⟩ := pats_new2 ⟨Pat.waive 1, pma⟩ ⟨Pat.waive 0, pmc⟩ hVb (hpa.then_ (below_then hbp (below_then hbd hbc))) (hpc.then_ (Below.refl _ _))
        clear hVb
        first | replace hqb : Pats Vb (some ⟨w9.heap.size, 0, none⟩) _ := hqb | skip
        refine hK.out _ _ (Lib.hid (below_then hHeld.out hbb)) (fun hHeld => ?_)
        clear hK K
        try simp only [Act.put, List.setIfInBounds_toArray, List.set_cons_zero, List.set_cons_succ]
        refine wpHB_ready (rs := [8]) (by kernel_rfl) (by simp) ?_
        refine AllHB.cons (by kernel_rfl) (o := ⟨some 73, _, _, _, _, _⟩) rfl (fun K hK => ?_) AllHB.nil
        go_simp
        (go_at_call 13; (with_reducible refine (HM9.out pma pmc _ _ _ (HCO.out.then_ hHeld.out) (hqb.then_ (Below.refl _ _)) (hqd.then_ (below_then hbc hbb))).mono ?_); rintro e wm ⟨⟨AM, kM, M, rfl, hM, hqM, hlM⟩, hbm⟩)
        refine hK.out _ _ (Lib.hid (below_then hHeld.out hbm)) (fun hHeld => ?_)
        clear hK K
        try simp only [Act.put, List.setIfInBounds_toArray, List.set_cons_zero, List.set_cons_succ]
        refine wpHB_tk hdir hsel hpan (i := 9) (oi := ⟨some 64, _, _, _, _, _⟩) rfl (by kernel_rfl) (Or.inl ⟨by rfl, fun _ _ => by rfl⟩) hHeld ?_
        refine wpHB_tk hdir hsel hpan (i := 10) (oi := ⟨some 74, _, _, _, _, _⟩) rfl (by kernel_rfl) (Or.inl ⟨by rfl, fun _ _ => by rfl⟩) hHeld ?_
        refine wpHB_tk hdir hsel hpan (i := 11) (oi := ⟨some 75, _, _, _, _, _⟩) rfl (by kernel_rfl) (Or.inl ⟨by rfl, fun _ _ => by rfl⟩) hHeld ?_
        refine wpHB_tk hdir hsel hpan (i := 12) (oi := ⟨some 76, _, _, _, _, _⟩) rfl (by kernel_rfl) (Or.inl ⟨by rfl, fun _ _ => by rfl⟩) hHeld ?_
        refine wpHB_tk hdir hsel hpan (i := 14) (oi := ⟨some 15, _, _, _, _, _⟩) rfl (by kernel_rfl) (Or.inl ⟨by rfl, fun _ _ => by rfl⟩) hHeld ?_
        try simp only [Act.put, List.setIfInBounds_toArray, List.set_cons_zero, List.set_cons_succ]
        refine wpHB_ready (rs := [15]) (by kernel_rfl) (by simp) ?_
        refine AllHB.cons (by kernel_rfl) (o := ⟨none, _, _, _, _, _⟩) rfl (fun K hK => ?_) AllHB.nil
        rw [if_pos (by rfl)]
        refine wp_store_all 36 _ _ rfl _ 36 [] (pairA 0 0).toList [] (pairA 1 0).toList rfl rfl (gp.then_ (below_then hbd (below_then hbc (below_then hbb hbm)))) rfl (by kernel_rfl) (by simp [Value.oneCell']) ?_
        intro w8 g8 U8
        refine hK.out _ _ (Lib.hid (hHeld.out.trans (U8.b _ lb))) (fun hHeld => ?_)
        clear hK K
        try simp only [Act.put]
        refine wpHB_tail (by kernel_rfl) (by kernel_rfl) ?_
        clear hdir hsel hpan
        simp only [opsAt, List.getElem?_toArray, List.getElem?_cons_succ, List.getElem?_cons_zero, Option.toList_some, List.cons_append, List.nil_append]
        go_wp2
        exact hdone.out _ _ _ _ _ _ _ _ _ _ _ _ _ _ _ _ _ ⟨_, _, _, _, rfl, rfl, rfl, g8, hlM, lb, hHeld.out⟩
      exact AllHB.nil
    exact AllHB.nil
  refine AllHB.cons (by kernel_rfl) (o := ⟨some 72, _, _, _, _, _⟩) rfl (fun K hK => ?_) ?_
  · go_simp
    refine name_k ?_
    intro Vd hVd
    obtain ⟨hqd, hbd⟩ := pats_new ⟨Pat.repl 0 5, p5⟩ hVd (HP5.out.then_ hHeld.out)
    clear hVd
    first | replace hqd : Pats Vd (some ⟨w9.heap.size, 0, none⟩) _ := hqd | skip
    refine hK.out _ _ (Lib.hid (below_then hHeld.out hbd)) (fun hHeld => ?_)
    clear hK K
    try simp only [Act.put, List.setIfInBounds_toArray, List.set_cons_zero, List.set_cons_succ]
    refine wpHB_ready (rs := [2, 13]) (by kernel_rfl) (by simp) ?_
    refine AllHB.cons (by kernel_rfl) (o := ⟨some 67, _, _, _, _, _⟩) rfl (fun K hK => ?_) ?_
    · go_simp
      (go_at_call 22; (with_reducible refine (HW.out _ _).mono ?_); rintro e wa ⟨⟨pma, rfl, hpa, _⟩, hba⟩)
      refine hK.out _ _ (Lib.hid (below_then hHeld.out hba)) (fun hHeld => ?_)
      clear hK K
      try simp only [Act.put, List.setIfInBounds_toArray, List.set_cons_zero, List.set_cons_succ]
      refine wpHB_ready (rs := [4, 13]) (by kernel_rfl) (by simp) ?_
      refine AllHB.cons (by kernel_rfl) (o := ⟨some 69, _, _, _, _, _⟩) rfl (fun K hK => ?_) ?_
      · go_simp
        (go_at_call 22; (with_reducible refine (HW.out _ _).mono ?_); rintro e wd ⟨⟨pmc, rfl, hpc, _⟩, hbc⟩)
        refine hK.out _ _ (Lib.hid (below_then hHeld.out hbc)) (fun hHeld => ?_)
        clear hK K
        try simp only [Act.put, List.setIfInBounds_toArray, List.set_cons_zero, List.set_cons_succ]
        refine wpHB_ready (rs := [5, 13]) (by kernel_rfl) (by simp) ?_
        refine AllHB.cons (by kernel_rfl) (o := ⟨some 70, _, _, _, _, _⟩) rfl (fun K hK => ?_) ?_
        · go_simp
          refine name_k ?_
          intro Vb hVb
          obtain ⟨hqb, hbb⟩ := pats_new2 ⟨Pat.waive 1, pma⟩ ⟨Pat.waive 0, pmc⟩ hVb (hpa.then_ hbc) (hpc.then_ (Below.refl _ _))
          clear hVb
          first | replace hqb : Pats Vb (some ⟨w9.heap.size, 0, none⟩) _ := hqb | skip
          refine hK.out _ _ (Lib.hid (below_then hHeld.out hbb)) (fun hHeld => ?_)
          clear hK K
          try simp only [Act.put, List.setIfInBounds_toArray, List.set_cons_zero, List.set_cons_succ]
          refine wpHB_ready (rs := [8, 13]) (by kernel_rfl) (by simp) ?_
          refine AllHB.cons (by kernel_rfl) (o := ⟨some 73, _, _, _, _, _⟩) rfl (fun K hK => ?_) ?_
          · go_simp
            (go_at_call 13; (with_reducible refine (HM9.out pma pmc _ _ _ (HCO.out.then_ hHeld.out) (hqb.then_ (Below.refl _ _)) (hqd.then_ (below_then hba (below_then hbc hbb)))).mono ?_); rintro e wm ⟨⟨AM, kM, M, rfl, hM, hqM, hlM⟩, hbm⟩)
            refine hK.out _ _ (Lib.hid (below_then hHeld.out hbm)) (fun hHeld => ?_)
            clear hK K
            try simp only [Act.put, List.setIfInBounds_toArray, List.set_cons_zero, List.set_cons_succ]
            refine wpHB_tk hdir hsel hpan (i := 9) (oi := ⟨some 64, _, _, _, _, _⟩) rfl (by kernel_rfl) (Or.inl ⟨by rfl, fun _ _ => by rfl⟩) hHeld ?_
            refine wpHB_tk hdir hsel hpan (i := 10) (oi := ⟨some 74, _, _, _, _, _⟩) rfl (by kernel_rfl) (Or.inl ⟨by rfl, fun _ _ => by rfl⟩) hHeld ?_
            refine wpHB_tk hdir hsel hpan (i := 11) (oi := ⟨some 75, _, _, _, _, _⟩) rfl (by kernel_rfl) (Or.inl ⟨by rfl, fun _ _ => by rfl⟩) hHeld ?_
            refine wpHB_tk hdir hsel hpan (i := 12) (oi := ⟨some 76, _, _, _, _, _⟩) rfl (by kernel_rfl) (Or.inl ⟨by rfl, fun _ _ => by rfl⟩) hHeld ?_
            try simp only [Act.put, List.setIfInBounds_toArray, List.set_cons_zero, List.set_cons_succ]
            refine wpHB_ready (rs := [13]) (by kernel_rfl) (by simp) ?_
            refine AllHB.cons (by kernel_rfl) (o := ⟨some 16, _, _, _, _, _⟩) rfl (fun K hK => ?_) AllHB.nil
            go_simp
            have lb := hHeld.out.size
            refine name_k ?_
            intro Vp hVp
            first | obtain ⟨gp, hbp⟩ := pair_new hVp | obtain ⟨gp, hbp⟩ := pair_new (W := w9.drew) hVp
            clear hVp
            refine hK.out _ _ (Lib.hid (below_then hHeld.out hbp)) (fun hHeld => ?_)
            clear hK K
            try simp only [Act.put, List.setIfInBounds_toArray, List.set_cons_zero, List.set_cons_succ]
            refine wpHB_tk hdir hsel hpan (i := 14) (oi := ⟨some 15, _, _, _, _, _⟩) rfl (by kernel_rfl) (Or.inl ⟨by rfl, fun _ _ => by rfl⟩) hHeld ?_
            try simp only [Act.put, List.setIfInBounds_toArray, List.set_cons_zero, List.set_cons_succ]
            refine wpHB_ready (rs := [15]) (by kernel_rfl) (by simp) ?_
            refine AllHB.cons (by kernel_rfl) (o := ⟨none, _, _, _, _, _⟩) rfl (fun K hK => ?_) AllHB.nil
            rw [if_pos (by rfl)]
            refine wp_store_all 36 _ _ rfl _ 36 [] (pairA 0 0).toList [] (pairA 1 0).toList rfl rfl (gp.then_ (Below.refl _ _)) rfl (by kernel_rfl) (by simp [Value.oneCell']) ?_
            intro w8 g8 U8
            refine hK.out _ _ (Lib.hid (hHeld.out.trans (U8.b _ lb))) (fun hHeld => ?_)
            clear hK K
            try simp only [Act.put]
            refine wpHB_tail (by kernel_rfl) (by kernel_rfl) ?_
            clear hdir hsel hpan
            simp only [opsAt, List.getElem?_toArray, List.getElem?_cons_succ, List.getElem?_cons_zero, Option.toList_some, List.cons_append, List.nil_append]
            go_wp2
            exact hdone.out _ _ _ _ _ _ _ _ _ _ _ _ _ _ _ _ _ ⟨_, _, _, _, rfl, rfl, rfl, g8, hlM, lb, hHeld.out⟩
          refine AllHB.cons (by kernel_rfl) (o := ⟨some 16, _, _, _, _, _⟩) rfl (fun K hK => ?_) ?_
          · go_simp
            have lb := hHeld.out.size
            refine name_k ?_
            intro Vp hVp
            first | obtain ⟨gp, hbp⟩ := pair_new hVp | obtain ⟨gp, hbp⟩ := pair_new (W := w9.drew) hVp
            clear hVp
            refine hK.out _ _ (Lib.hid (below_then hHeld.out hbp)) (fun hHeld => ?_)
            clear hK K
            try simp only [Act.put, List.setIfInBounds_toArray, List.set_cons_zero, List.set_cons_succ]
            refine wpHB_ready (rs := [8]) (by kernel_rfl) (by simp) ?_
            refine AllHB.cons (by kernel_rfl) (o := ⟨some 73, _, _, _, _, _⟩) rfl (fun K hK => ?_) AllHB.nil
            go_simp
            (go_at_call 13; (with_reducible refine (HM9.out pma pmc _ _ _ (HCO.out.then_ hHeld.out) (hqb.then_ hbp) (hqd.then_ (below_then hba (below_then hbc (below_then hbb hbp))))).mono ?_); rintro e wm ⟨⟨AM, kM, M, rfl, hM, hqM, hlM⟩, hbm⟩)
            refine hK.out _ _ (Lib.hid (below_then hHeld.out hbm)) (fun hHeld => ?_)
            clear hK K
            try simp only [Act.put, List.setIfInBounds_toArray, List.set_cons_zero, List.set_cons_succ]
            refine wpHB_tk hdir hsel hpan (i := 9) (oi := ⟨some 64, _, _, _, _, _⟩) rfl (by kernel_rfl) (Or.inl ⟨by rfl, fun _ _ => by rfl⟩) hHeld ?_
            refine wpHB_tk hdir hsel hpan (i := 10) (oi := ⟨some 74, _, _, _, _, _⟩) rfl (by kernel_rfl) (Or.inl ⟨by rfl, fun _ _ => by rfl⟩) hHeld ?_
            refine wpHB_tk hdir hsel hpan (i := 11) (oi := ⟨some 75, _, _, _, _, _⟩) rfl (by kernel_rfl) (Or.inl ⟨by rfl, fun _ _ => by rfl⟩) hHeld ?_
            refine wpHB_tk hdir hsel hpan (i := 12) (oi := ⟨some 76, _, _, _, _, _⟩) rfl (by kernel_rfl) (Or.inl ⟨by rfl, fun _ _ => by rfl⟩) hHeld ?_
            refine wpHB_tk hdir hsel hpan (i := 14) (oi := ⟨some 15, _, _, _, _, _⟩) rfl (by kernel_rfl) (Or.inl ⟨by rfl, fun _ _ => by rfl⟩) hHeld ?_
            try simp only [Act.put, List.setIfInBounds_toArray, List.set_cons_zero, List.set_cons_succ]
            refine wpHB_ready (rs := [15]) (by kernel_rfl) (by simp) ?_
            refine AllHB.cons (by kernel_rfl) (o := ⟨none, _, _, _, _, _⟩) rfl (fun K hK => ?_) AllHB.nil
            rw [if_pos (by rfl)]
            refine wp_store_all 36 _ _ rfl _ 36 [] (pairA 0 0).toList [] (pairA 1 0).toList rfl rfl (gp.then_ hbm) rfl (by kernel_rfl) (by simp [Value.oneCell']) ?_
            intro w8 g8 U8
            refine hK.out _ _ (Lib.hid (hHeld.out.trans (U8.b _ lb))) (fun hHeld => ?_)
            clear hK K
            try simp only [Act.put]
            refine wpHB_tail (by kernel_rfl) (by kernel_rfl) ?_
            clear hdir hsel hpan
            simp only [opsAt, List.getElem?_toArray, List.getElem?_cons_succ, List.getElem?_cons_zero, Option.toList_some, List.cons_append, List.nil_append]
            go_wp2
            exact hdone.out _ _ _ _ _ _ _ _ _ _ _ _ _ _ _ _ _ ⟨_, _, _, _, rfl, rfl, rfl, g8, hlM, lb, hHeld.out⟩
          exact AllHB.nil
        refine AllHB.cons (by kernel_rfl) (o := ⟨some 16, _, _, _, _, _⟩) rfl (fun K hK => ?_) ?_
        · go_simp
          have lb := hHeld.out.size
          refine name_k ?_
          intro Vp hVp
          first | obtain ⟨gp, hbp⟩ := pair_new hVp | obtain ⟨gp, hbp⟩ := pair_new (W := w9.drew) hVp
          clear hVp
          refine hK.out _ _ (Lib.hid (below_then hHeld.out hbp)) (fun hHeld => ?_)
          clear hK K
          try simp only [Act.put, List.setIfInBounds_toArray, List.set_cons_zero, List.set_cons_succ]
          refine wpHB_ready (rs := [5]) (by kernel_rfl) (by simp) ?_
          refine AllHB.cons (by kernel_rfl) (o := ⟨some 70, _, _, _, _, _⟩) rfl (fun K hK => ?_) AllHB.nil
          go_simp
          refine name_k ?_
          intro Vb hVb
          obtain ⟨hqb, hbb⟩ := pats_new2 ⟨Pat.waive 1, pma⟩ ⟨Pat.waive 0, pmc⟩ hVb (hpa.then_ (below_then hbc hbp)) (hpc.then_ hbp)
          clear hVb
          first | replace hqb : Pats Vb (some ⟨w9.heap.size, 0, none⟩) _ := hqb | skip
          refine hK.out _ _ (Lib.hid (below_then hHeld.out hbb)) (fun hHeld => ?_)
          clear hK K
          try simp only [Act.put, List.setIfInBounds_toArray, List.set_cons_zero, List.set_cons_succ]
          refine wpHB_ready (rs := [8]) (by kernel_rfl) (by simp) ?_
          refine AllHB.cons (by kernel_rfl) (o := ⟨some 73, _, _, _, _, _⟩) rfl (fun K hK => ?_) AllHB.nil
          go_simp
          (go_at_call 13; (with_reducible refine (HM9.out pma pmc _ _ _ (HCO.out.then_ hHeld.out) (hqb.then_ (Below.refl _ _)) (hqd.then_ (below_then hba (below_then hbc (below_then hbp hbb))))).mono ?_); rintro e wm ⟨⟨AM, kM, M, rfl, hM, hqM, hlM⟩, hbm⟩)
          refine hK.out _ _ (Lib.hid (below_then hHeld.out hbm)) (fun hHeld => ?_)
          clear hK K
          try simp only [Act.put, List.setIfInBounds_toArray, List.set_cons_zero, List.set_cons_succ]
          refine wpHB_tk hdir hsel hpan (i := 9) (oi := ⟨some 64, _, _, _, _, _⟩) rfl (by kernel_rfl) (Or.inl ⟨by rfl, fun _ _ => by rfl⟩) hHeld ?_
          refine wpHB_tk hdir hsel hpan (i := 10) (oi := ⟨some 74, _, _, _, _, _⟩) rfl (by kernel_rfl) (Or.inl ⟨by rfl, fun _ _ => by rfl⟩) hHeld ?_
          refine wpHB_tk hdir hsel hpan (i := 11) (oi := ⟨some 75, _, _, _, _, _⟩) rfl (by kernel_rfl) (Or.inl ⟨by rfl, fun _ _ => by rfl⟩) hHeld ?_
          refine wpHB_tk hdir hsel hpan (i := 12) (oi := ⟨some 76, _, _, _, _, _⟩) rfl (by kernel_rfl) (Or.inl ⟨by rfl, fun _ _ => by rfl⟩) hHeld ?_
          refine wpHB_tk hdir hsel hpan (i := 14) (oi := ⟨some 15, _, _, _, _, _⟩) rfl (by kernel_rfl) (Or.inl ⟨by rfl, fun _ _ => by rfl⟩) hHeld ?_
          try simp only [Act.put, List.setIfInBounds_toArray, List.set_cons_zero, List.set_cons_succ]
          refine wpHB_ready (rs := [15]) (by kernel_rfl) (by simp) ?_
          refine AllHB.cons (by kernel_rfl) (o := ⟨none, _, _, _, _, _⟩) rfl (fun K hK => ?_) AllHB.nil
          rw [if_pos (by rfl)]
          refine wp_store_all 36 _ _ rfl _ 36 [] (pairA 0 0).toList [] (pairA 1 0).toList rfl rfl (gp.then_ (below_then hbb hbm)) rfl (by kernel_rfl) (by simp [Value.oneCell']) ?_
          intro w8 g8 U8
          refine hK.out _ _ (Lib.hid (hHeld.out.trans (U8.b _ lb))) (fun hHeld => ?_)
          clear hK K
          try simp only [Act.put]
          refine wpHB_tail (by kernel_rfl) (by kernel_rfl) ?_
          clear hdir hsel hpan
          simp only [opsAt, List.getElem?_toArray, List.getElem?_cons_succ, List.getElem?_cons_zero, Option.toList_some, List.cons_append, List.nil_append]
          go_wp2
          exact hdone.out _ _ _ _ _ _ _ _ _ _ _ _ _ _ _ _ _ ⟨_, _, _, _, rfl, rfl, rfl, g8, hlM, lb, hHeld.out⟩
        exact AllHB.nil
      refine AllHB.cons (by kernel_rfl) (o := ⟨some 16, _, _, _, _, _⟩) rfl (fun K hK => ?_) ?_
      · go_simp
        have lb := hHeld.out.size
        refine name_k ?_
        intro Vp hVp
        first | obtain ⟨gp, hbp⟩ := pair_new hVp | obtain ⟨gp, hbp⟩ := pair_new (W := w9.drew) hVp
        clear hVp
        refine hK.out _ _ (Lib.hid (below_then hHeld.out hbp)) (fun hHeld => ?_)
        clear hK K
        try simp only [Act.put, List.setIfInBounds_toArray, List.set_cons_zero, List.set_cons_succ]
        refine wpHB_ready (rs := [4]) (by kernel_rfl) (by simp) ?_
        refine AllHB.cons (by kernel_rfl) (o := ⟨some 69, _, _, _, _, _⟩) rfl (fun K hK => ?_) AllHB.nil
        go_simp
        (go_at_call 22; (with_reducible refine (HW.out _ _).mono ?_); rintro e wd ⟨⟨pmc, rfl, hpc, _⟩, hbc⟩)
        refine hK.out _ _ (Lib.hid (below_then hHeld.out hbc)) (fun hHeld => ?_)
        clear hK K
        try simp only [Act.put, List.setIfInBounds_toArray, List.set_cons_zero, List.set_cons_succ]
        refine wpHB_ready (rs := [5]) (by kernel_rfl) (by simp) ?_
        refine AllHB.cons (by kernel_rfl) (o := ⟨some 70, _, _, _, _, _⟩) rfl (fun K hK => ?_) AllHB.nil
        go_simp
        refine name_k ?_
        intro Vb hVb
        obtain ⟨hqb, hbb⟩ := pats_new2 ⟨Pat.waive 1, pma⟩ ⟨Pat.waive 0, pmc⟩ hVb (hpa.then_ (below_then hbp hbc)) (hpc.then_ (Below.refl _ _))
        clear hVb
        first | replace hqb : Pats Vb (some ⟨w9.heap.size, 0, none⟩) _ := hqb | skip
        refine hK.out _ _ (Lib.hid (below_then hHeld.out hbb)) (fun hHeld => ?_)
        clear hK K
        try simp only [Act.put, List.setIfInBounds_toArray, List.set_cons_zero, List.set_cons_succ]
        refine wpHB_ready (rs := [8]) (by kernel_rfl) (by simp) ?_
        refine AllHB.cons (by kernel_rfl) (o := ⟨some 73, _, _, _, _, _⟩) rfl (fun K hK => ?_) AllHB.nil
        go_simp
        (go_at_call 13; (with_reducible refine (HM9.out pma pmc _ _ _ (HCO.out.then_ hHeld.out) (hqb.then_ (Below.refl _ _)) (hqd.then_ (below_then hba (below_then hbp (below_then hbc hbb))))).mono ?_); rintro e wm ⟨⟨AM, kM, M, rfl, hM, hqM, hlM⟩, hbm⟩)
        refine hK.out _ _ (Lib.hid (below_then hHeld.out hbm)) (fun hHeld => ?_)
        clear hK K
        try simp only [Act.put, List.setIfInBounds_toArray, List.set_cons_zero, List.set_cons_succ]
        refine wpHB_tk hdir hsel hpan (i := 9) (oi := ⟨some 64, _, _, _, _, _⟩) rfl (by kernel_rfl) (Or.inl ⟨by rfl, fun _ _ => by rfl⟩) hHeld ?_
        refine wpHB_tk hdir hsel hpan (i := 10) (oi := ⟨some 74, _, _, _, _, _⟩) rfl (by kernel_rfl) (Or.inl ⟨by rfl, fun _ _ => by rfl⟩) hHeld ?_
        refine wpHB_tk hdir hsel hpan (i := 11) (oi := ⟨some 75, _, _, _, _, _⟩) rfl (by kernel_rfl) (Or.inl ⟨by rfl, fun _ _ => by rfl⟩) hHeld ?_
        refine wpHB_tk hdir hsel hpan (i := 12) (oi := ⟨some 76, _, _, _, _, _⟩) rfl (by kernel_rfl) (Or.inl ⟨by rfl, fun _ _ => by rfl⟩) hHeld ?_
        refine wpHB_tk hdir hsel hpan (i := 14) (oi := ⟨some 15, _, _, _, _, _⟩) rfl (by kernel_rfl) (Or.inl ⟨by rfl, fun _ _ => by rfl⟩) hHeld ?_
        try simp only [Act.put, List.setIfInBounds_toArray, List.set_cons_zero, List.set_cons_succ]
        refine wpHB_ready (rs := [15]) (by kernel_rfl) (by simp) ?_
        refine AllHB.cons (by kernel_rfl) (o := ⟨none, _, _, _, _, _⟩) rfl (fun K hK => ?_) AllHB.nil
        rw [if_pos (by rfl)]
        refine wp_store_all 36 _ _ rfl _ 36 [] (pairA 0 0).toList [] (pairA 1 0).toList rfl rfl (gp.then_ (below_then hbc (below_then hbb hbm))) rfl (by kernel_rfl) (by simp [Value.oneCell']) ?_
        intro w8 g8 U8
        refine hK.out _ _ (Lib.hid (hHeld.out.trans (U8.b _ lb))) (fun hHeld => ?_)
        clear hK K
        try simp only [Act.put]
        refine wpHB_tail (by kernel_rfl) (by kernel_rfl) ?_
        clear hdir hsel hpan
        simp only [opsAt, List.getElem?_toArray, List.getElem?_cons_succ, List.getElem?_cons_zero, Option.toList_some, List.cons_append, List.nil_append]
        go_wp2
        exact hdone.out _ _ _ _ _ _ _ _ _ _ _ _ _ _ _ _ _ ⟨_, _, _, _, rfl, rfl, rfl, g8, hlM, lb, hHeld.out⟩
      exact AllHB.nil
    refine AllHB.cons (by kernel_rfl) (o := ⟨some 16, _, _, _, _, _⟩) rfl (fun K hK => ?_) ?_
    · go_simp
      have lb := hHeld.out.size
      refine name_k ?_
      intro Vp hVp
      first | obtain ⟨gp, hbp⟩ := pair_new hVp | obtain ⟨gp, hbp⟩ := pair_new (W := w9.drew) hVp
      clear hVp
      refine hK.out _ _ (Lib.hid (below_then hHeld.out hbp)) (fun hHeld => ?_)
      clear hK K
      try simp only [Act.put, List.setIfInBounds_toArray, List.set_cons_zero, List.set_cons_succ]
      refine wpHB_ready (rs := [2]) (by kernel_rfl) (by simp) ?_
      refine AllHB.cons (by kernel_rfl) (o := ⟨some 67, _, _, _, _, _⟩) rfl (fun K hK => ?_) AllHB.nil
      go_simp
      (go_at_call 22; (with_reducible refine (HW.out _ _).mono ?_); rintro e wa ⟨⟨pma, rfl, hpa, _⟩, hba⟩)
      refine hK.out _ _ (Lib.hid (below_then hHeld.out hba)) (fun hHeld => ?_)
      clear hK K
      try simp only [Act.put, List.setIfInBounds_toArray, List.set_cons_zero, List.set_cons_succ]
      refine wpHB_ready (rs := [4]) (by kernel_rfl) (by simp) ?_
      refine AllHB.cons (by kernel_rfl) (o := ⟨some 69, _, _, _, _, _⟩) rfl (fun K hK => ?_) AllHB.nil
      go_simp
      (go_at_call 22; (with_reducible refine (HW.out _ _).mono ?_); rintro e wd ⟨⟨pmc, rfl, hpc, _⟩, hbc⟩)
      refine hK.out _ _ (Lib.hid (below_then hHeld.out hbc)) (fun hHeld => ?_)
      clear hK K
      try simp only [Act.put, List.setIfInBounds_toArray, List.set_cons_zero, List.set_cons_succ]
      refine wpHB_ready (rs := [5]) (by kernel_rfl) (by simp) ?_
      refine AllHB.cons (by kernel_rfl) (o := ⟨some 70, _, _, _, _, _⟩) rfl (fun K hK => ?_) AllHB.nil
      go_simp
      refine name_k ?_
      intro Vb hVb
      obtain ⟨hqb, hbb⟩ := pats_new2 ⟨Pat.waive 1, pma⟩ ⟨Pat.waive 0, pmc⟩ hVb (hpa.then_ hbc) (hpc.then_ (Below.refl _ _))
      clear hVb
      first | replace hqb : Pats Vb (some ⟨w9.heap.size, 0, none⟩) _ := hqb | skip
      refine hK.out _ _ (Lib.hid (below_then hHeld.out hbb)) (fun hHeld => ?_)
      clear hK K
      try simp only [Act.put, List.setIfInBounds_toArray, List.set_cons_zero, List.set_cons_succ]
      refine wpHB_ready (rs := [8]) (by kernel_rfl) (by simp) ?_
      refine AllHB.cons (by kernel_rfl) (o := ⟨some 73, _, _, _, _, _⟩) rfl (fun K hK => ?_) AllHB.nil
      go_simp
      (go_at_call 13; (with_reducible refine (HM9.out pma pmc _ _ _ (HCO.out.then_ hHeld.out) (hqb.then_ (Below.refl _ _)) (hqd.then_ (below_then hbp (below_then hba (below_then hbc hbb))))).mono ?_); rintro e wm ⟨⟨AM, kM, M, rfl, hM, hqM, hlM⟩, hbm⟩)
      refine hK.out _ _ (Lib.hid (below_then hHeld.out hbm)) (fun hHeld => ?_)
      clear hK K
      try simp only [Act.put, List.setIfInBounds_toArray, List.set_cons_zero, List.set_cons_succ]
      refine wpHB_tk hdir hsel hpan (i := 9) (oi := ⟨some 64, _, _, _, _, _⟩) rfl (by kernel_rfl) (Or.inl ⟨by rfl, fun _ _ => by rfl⟩) hHeld ?_
      refine wpHB_tk hdir hsel hpan (i := 10) (oi := ⟨some 74, _, _, _, _, _⟩) rfl (by kernel_rfl) (Or.inl ⟨by rfl, fun _ _ => by rfl⟩) hHeld ?_
      refine wpHB_tk hdir hsel hpan (i := 11) (oi := ⟨some 75, _, _, _, _, _⟩) rfl (by kernel_rfl) (Or.inl ⟨by rfl, fun _ _ => by rfl⟩) hHeld ?_
      refine wpHB_tk hdir hsel hpan (i := 12) (oi := ⟨some 76, _, _, _, _, _⟩) rfl (by kernel_rfl) (Or.inl ⟨by rfl, fun _ _ => by rfl⟩) hHeld ?_
      refine wpHB_tk hdir hsel hpan (i := 14) (oi := ⟨some 15, _, _, _, _, _⟩) rfl (by kernel_rfl) (Or.inl ⟨by rfl, fun _ _ => by rfl⟩) hHeld ?_
      try simp only [Act.put, List.setIfInBounds_toArray, List.set_cons_zero, List.set_cons_succ]
      refine wpHB_ready (rs := [15]) (by kernel_rfl) (by simp) ?_
      refine AllHB.cons (by kernel_rfl) (o := ⟨none, _, _, _, _, _⟩) rfl (fun K hK => ?_) AllHB.nil
      rw [if_pos (by rfl)]
      refine wp_store_all 36 _ _ rfl _ 36 [] (pairA 0 0).toList [] (pairA 1 0).toList rfl rfl (gp.then_ (below_then hba (below_then hbc (below_then hbb hbm)))) rfl (by kernel_rfl) (by simp [Value.oneCell']) ?_
      intro w8 g8 U8
      refine hK.out _ _ (Lib.hid (hHeld.out.trans (U8.b _ lb))) (fun hHeld => ?_)
      clear hK K
      try simp only [Act.put]
      refine wpHB_tail (by kernel_rfl) (by kernel_rfl) ?_
      clear hdir hsel hpan
      simp only [opsAt, List.getElem?_toArray, List.getElem?_cons_succ, List.getElem?_cons_zero, Option.toList_some, List.cons_append, List.nil_append]
      go_wp2
      exact hdone.out _ _ _ _ _ _ _ _ _ _ _ _ _ _ _ _ _ ⟨_, _, _, _, rfl, rfl, rfl, g8, hlM, lb, hHeld.out⟩
    exact AllHB.nil
  refine AllHB.cons (by kernel_rfl) (o := ⟨some 16, _, _, _, _, _⟩) rfl (fun K hK => ?_) ?_
  · go_simp
    have lb := hHeld.out.size
    refine name_k ?_
    intro Vp hVp
    first | obtain ⟨gp, hbp⟩ := pair_new hVp | obtain ⟨gp, hbp⟩ := pair_new (W := w9.drew) hVp
    clear hVp
    refine hK.out _ _ (Lib.hid (below_then hHeld.out hbp)) (fun hHeld => ?_)
    clear hK K
    try simp only [Act.put, List.setIfInBounds_toArray, List.set_cons_zero, List.set_cons_succ]
    refine wpHB_ready (rs := [2, 7]) (by kernel_rfl) (by simp) ?_
    refine AllHB.cons (by kernel_rfl) (o := ⟨some 67, _, _, _, _, _⟩) rfl (fun K hK => ?_) ?_
    · go_simp
      (go_at_call 22; (with_reducible refine (HW.out _ _).mono ?_); rintro e wa ⟨⟨pma, rfl, hpa, _⟩, hba⟩)
      refine hK.out _ _ (Lib.hid (below_then hHeld.out hba)) (fun hHeld => ?_)
      clear hK K
      try simp only [Act.put, List.setIfInBounds_toArray, List.set_cons_zero, List.set_cons_succ]
      refine wpHB_ready (rs := [4, 7]) (by kernel_rfl) (by simp) ?_
      refine AllHB.cons (by kernel_rfl) (o := ⟨some 69, _, _, _, _, _⟩) rfl (fun K hK => ?_) ?_
      · go_simp
        (go_at_call 22; (with_reducible refine (HW.out _ _).mono ?_); rintro e wd ⟨⟨pmc, rfl, hpc, _⟩, hbc⟩)
        refine hK.out _ _ (Lib.hid (below_then hHeld.out hbc)) (fun hHeld => ?_)
        clear hK K
        try simp only [Act.put, List.setIfInBounds_toArray, List.set_cons_zero, List.set_cons_succ]
        refine wpHB_ready (rs := [5, 7]) (by kernel_rfl) (by simp) ?_
        refine AllHB.cons (by kernel_rfl) (o := ⟨some 70, _, _, _, _, _⟩) rfl (fun K hK => ?_) ?_
        · go_simp
          refine name_k ?_
          intro Vb hVb
          obtain ⟨hqb, hbb⟩ := pats_new2 ⟨Pat.waive 1, pma⟩ ⟨Pat.waive 0, pmc⟩ hVb (hpa.then_ hbc) (hpc.then_ (Below.refl _ _))
          clear hVb
          first | replace hqb : Pats Vb (some ⟨w9.heap.size, 0, none⟩) _ := hqb | skip
          refine hK.out _ _ (Lib.hid (below_then hHeld.out hbb)) (fun hHeld => ?_)
          clear hK K
          try simp only [Act.put, List.setIfInBounds_toArray, List.set_cons_zero, List.set_cons_succ]
          refine wpHB_ready (rs := [7]) (by kernel_rfl) (by simp) ?_
          refine AllHB.cons (by kernel_rfl) (o := ⟨some 72, _, _, _, _, _⟩) rfl (fun K hK => ?_) AllHB.nil
          go_simp
          refine name_k ?_
          intro Vd hVd
          obtain ⟨hqd, hbd⟩ := pats_new ⟨Pat.repl 0 5, p5⟩ hVd (HP5.out.then_ hHeld.out)
          clear hVd
          first | replace hqd : Pats Vd (some ⟨w9.heap.size, 0, none⟩) _ := hqd | skip
          refine hK.out _ _ (Lib.hid (below_then hHeld.out hbd)) (fun hHeld => ?_)
          clear hK K
          try simp only [Act.put, List.setIfInBounds_toArray, List.set_cons_zero, List.set_cons_succ]
          refine wpHB_ready (rs := [8]) (by kernel_rfl) (by simp) ?_
          refine AllHB.cons (by kernel_rfl) (o := ⟨some 73, _, _, _, _, _⟩) rfl (fun K hK => ?_) AllHB.nil
          go_simp
          (go_at_call 13; (with_reducible refine (HM9.out pma pmc _ _ _ (HCO.out.then_ hHeld.out) (hqb.then_ hbd) (hqd.then_ (Below.refl _ _))).mono ?_); rintro e wm ⟨⟨AM, kM, M, rfl, hM, hqM, hlM⟩, hbm⟩)
          refine hK.out _ _ (Lib.hid (below_then hHeld.out hbm)) (fun hHeld => ?_)
          clear hK K
          try simp only [Act.put, List.setIfInBounds_toArray, List.set_cons_zero, List.set_cons_succ]
          refine wpHB_tk hdir hsel hpan (i := 9) (oi := ⟨some 64, _, _, _, _, _⟩) rfl (by kernel_rfl) (Or.inl ⟨by rfl, fun _ _ => by rfl⟩) hHeld ?_
          refine wpHB_tk hdir hsel hpan (i := 10) (oi := ⟨some 74, _, _, _, _, _⟩) rfl (by kernel_rfl) (Or.inl ⟨by rfl, fun _ _ => by rfl⟩) hHeld ?_
          refine wpHB_tk hdir hsel hpan (i := 11) (oi := ⟨some 75, _, _, _, _, _⟩) rfl (by kernel_rfl) (Or.inl ⟨by rfl, fun _ _ => by rfl⟩) hHeld ?_
          refine wpHB_tk hdir hsel hpan (i := 12) (oi := ⟨some 76, _, _, _, _, _⟩) rfl (by kernel_rfl) (Or.inl ⟨by rfl, fun _ _ => by rfl⟩) hHeld ?_
          refine wpHB_tk hdir hsel hpan (i := 14) (oi := ⟨some 15, _, _, _, _, _⟩) rfl (by kernel_rfl) (Or.inl ⟨by rfl, fun _ _ => by rfl⟩) hHeld ?_
          try simp only [Act.put, List.setIfInBounds_toArray, List.set_cons_zero, List.set_cons_succ]
          refine wpHB_ready (rs := [15]) (by kernel_rfl) (by simp) ?_
          refine AllHB.cons (by kernel_rfl) (o := ⟨none, _, _, _, _, _⟩) rfl (fun K hK => ?_) AllHB.nil
          rw [if_pos (by rfl)]
          refine wp_store_all 36 _ _ rfl _ 36 [] (pairA 0 0).toList [] (pairA 1 0).toList rfl rfl (gp.then_ (below_then hba (below_then hbc (below_then hbb (below_then hbd hbm))))) rfl (by kernel_rfl) (by simp [Value.oneCell']) ?_
          intro w8 g8 U8
          refine hK.out _ _ (Lib.hid (hHeld.out.trans (U8.b _ lb))) (fun hHeld => ?_)
          clear hK K
          try simp only [Act.put]
          refine wpHB_tail (by kernel_rfl) (by kernel_rfl) ?_
          clear hdir hsel hpan
          simp only [opsAt, List.getElem?_toArray, List.getElem?_cons_succ, List.getElem?_cons_zero, Option.toList_some, List.cons_append, List.nil_append]
          go_wp2
          exact hdone.out _ _ _ _ _ _ _ _ _ _ _ _ _ _ _ _ _ ⟨_, _, _, _, rfl, rfl, rfl, g8, hlM, lb, hHeld.out⟩
        refine AllHB.cons (by kernel_rfl) (o := ⟨some 72, _, _, _, _, _⟩) rfl (fun K hK => ?_) ?_
        · go_simp
          refine name_k ?_
          intro Vd hVd
          obtain ⟨hqd, hbd⟩ := pats_new ⟨Pat.repl 0 5, p5⟩ hVd (HP5.out.then_ hHeld.out)
          clear hVd
          first | replace hqd : Pats Vd (some ⟨w9.heap.size, 0, none⟩) _ := hqd | skip
          refine hK.out _ _ (Lib.hid (below_then hHeld.out hbd)) (fun hHeld => ?_)
          clear hK K
          try simp only [Act.put, List.setIfInBounds_toArray, List.set_cons_zero, List.set_cons_succ]
          refine wpHB_ready (rs := [5]) (by kernel_rfl) (by simp) ?_
          refine AllHB.cons (by kernel_rfl) (o := ⟨some 70, _, _, _, _, _⟩) rfl (fun K hK => ?_) AllHB.nil
          go_simp
          refine name_k ?_
          intro Vb hVb
          obtain ⟨hqb, hbb⟩ := pats_new2 ⟨Pat.waive 1, pma⟩ ⟨Pat.waive 0, pmc⟩ hVb (hpa.then_ (below_then hbc hbd)) (hpc.then_ hbd)
          clear hVb
          first | replace hqb : Pats Vb (some ⟨w9.heap.size, 0, none⟩) _ := hqb | skip
          refine hK.out _ _ (Lib.hid (below_then hHeld.out hbb)) (fun hHeld => ?_)
          clear hK K
          try simp only [Act.put, List.setIfInBounds_toArray, List.set_cons_zero, List.set_cons_succ]
          refine wpHB_ready (rs := [8]) (by kernel_rfl) (by simp) ?_
          refine AllHB.cons (by kernel_rfl) (o := ⟨some 73, _, _, _, _, _⟩) rfl (fun K hK => ?_) AllHB.nil
          go_simp
          (go_at_call 13; (with_reducible refine (HM9.out pma pmc _ _ _ (HCO.out.then_ hHeld.out) (hqb.then_ (Below.refl _ _)) (hqd.then_ hbb)).mono ?_); rintro e wm ⟨⟨AM, kM, M, rfl, hM, hqM, hlM⟩, hbm⟩)
          refine hK.out _ _ (Lib.hid (below_then hHeld.out hbm)) (fun hHeld => ?_)
          clear hK K
          try simp only [Act.put, List.setIfInBounds_toArray, List.set_cons_zero, List.set_cons_succ]
          refine wpHB_tk hdir hsel hpan (i := 9) (oi := ⟨some 64, _, _, _, _, _⟩) rfl (by kernel_rfl) (Or.inl ⟨by rfl, fun _ _ => by rfl⟩) hHeld ?_
          refine wpHB_tk hdir hsel hpan (i := 10) (oi := ⟨some 74, _, _, _, _, _⟩) rfl (by kernel_rfl) (Or.inl ⟨by rfl, fun _ _ => by rfl⟩) hHeld ?_
          refine wpHB_tk hdir hsel hpan (i := 11) (oi := ⟨some 75, _, _, _, _, _⟩) rfl (by kernel_rfl) (Or.inl ⟨by rfl, fun _ _ => by rfl⟩) hHeld ?_
          refine wpHB_tk hdir hsel hpan (i := 12) (oi := ⟨some 76, _, _, _, _, _⟩) rfl (by kernel_rfl) (Or.inl ⟨by rfl, fun _ _ => by rfl⟩) hHeld ?_
          refine wpHB_tk hdir hsel hpan (i := 14) (oi := ⟨some 15, _, _, _, _, _⟩) rfl (by kernel_rfl) (Or.inl ⟨by rfl, fun _ _ => by rfl⟩) hHeld ?_
          try simp only [Act.put, List.setIfInBounds_toArray, List.set_cons_zero, List.set_cons_succ]
          refine wpHB_ready (rs := [15]) (by kernel_rfl) (by simp) ?_
          refine AllHB.cons (by kernel_rfl) (o := ⟨none, _, _, _, _, _⟩) rfl (fun K hK => ?_) AllHB.nil
          rw [if_pos (by rfl)]
          refine wp_store_all 36 _ _ rfl _ 36 [] (pairA 0 0).toList [] (pairA 1 0).toList rfl rfl (gp.then_ (below_then hba (below_then hbc (below_then hbd (below_then hbb hbm))))) rfl (by kernel_rfl) (by simp [Value.oneCell']) ?_
          intro w8 g8 U8
          refine hK.out _ _ (Lib.hid (hHeld.out.trans (U8.b _ lb))) (fun hHeld => ?_)
          clear hK K
          try simp only [Act.put]
          refine wpHB_tail (by kernel_rfl) (by kernel_rfl) ?_
          clear hdir hsel hpan
          simp only [opsAt, List.getElem?_toArray, List.getElem?_cons_succ, List.getElem?_cons_zero, Option.toList_some, List.cons_append, List.nil_append]
          go_wp2
          exact hdone.out _ _ _ _ _ _ _ _ _ _ _ _ _ _ _ _ _ ⟨_, _, _, _, rfl, rfl, rfl, g8, hlM, lb, hHeld.out⟩
        exact AllHB.nil
      refine AllHB.cons (by kernel_rfl) (o := ⟨some 72, _, _, _, _, _⟩) rfl (fun K hK => ?_) ?_
      · go_simp
        refine name_k ?_
        intro Vd hVd
        obtain ⟨hqd, hbd⟩ := pats_new ⟨Pat.repl 0 5, p5⟩ hVd (HP5.out.then_ hHeld.out)
        clear hVd
        first | replace hqd : Pats Vd (some ⟨w9.heap.size, 0, none⟩) _ := hqd | skip
        refine hK.out _ _ (Lib.hid (below_then hHeld.out hbd)) (fun hHeld => ?_)
        clear hK K
        try simp only [Act.put, List.setIfInBounds_toArray, List.set_cons_zero, List.set_cons_succ]
        refine wpHB_ready (rs := [4]) (by kernel_rfl) (by simp) ?_
        refine AllHB.cons (by kernel_rfl) (o := ⟨some 69, _, _, _, _, _⟩) rfl (fun K hK => ?_) AllHB.nil
        go_simp
        (go_at_call 22; (with_reducible refine (HW.out _ _).mono ?_); rintro e wd ⟨⟨pmc, rfl, hpc, _⟩, hbc⟩)
        refine hK.out _ _ (Lib.hid (below_then hHeld.out hbc)) (fun hHeld => ?_)
        clear hK K
        try simp only [Act.put, List.setIfInBounds_toArray, List.set_cons_zero, List.set_cons_succ]
        refine wpHB_ready (rs := [5]) (by kernel_rfl) (by simp) ?_
        refine AllHB.cons (by kernel_rfl) (o := ⟨some 70, _, _, _, _, _⟩) rfl (fun K hK => ?_) AllHB.nil
        go_simp
        refine name_k ?_
        intro Vb hVb
        obtain ⟨hqb, hbb⟩ := pats_new2 ⟨Pat.waive 1, pma⟩ ⟨Pat.waive 0, pmc⟩ hVb (hpa.then_ (below_then hbd hbc)) (hpc.then_ (Below.refl _ _))
        clear hVb
        first | replace hqb : Pats Vb (some ⟨w9.heap.size, 0, none⟩) _ := hqb | skip
        refine hK.out _ _ (Lib.hid (below_then hHeld.out hbb)) (fun hHeld => ?_)
        clear hK K
        try simp only [Act.put, List.setIfInBounds_toArray, List.set_cons_zero, List.set_cons_succ]
        refine wpHB_ready (rs := [8]) (by kernel_rfl) (by simp) ?_
        refine AllHB.cons (by kernel_rfl) (o := ⟨some 73, _, _, _, _, _⟩) rfl (fun K hK => ?_) AllHB.nil
        go_simp
        (go_at_call 13; (with_reducible refine (HM9.out pma pmc _ _ _ (HCO.out.then_ hHeld.out) (hqb.then_ (Below.refl _ _)) (hqd.then_ (below_then hbc hbb))).mono ?_); rintro e wm ⟨⟨AM, kM, M, rfl, hM, hqM, hlM⟩, hbm⟩)
        refine hK.out _ _ (Lib.hid (below_then hHeld.out hbm)) (fun hHeld => ?_)
        clear hK K
        try simp only [Act.put, List.setIfInBounds_toArray, List.set_cons_zero, List.set_cons_succ]
        refine wpHB_tk hdir hsel hpan (i := 9) (oi := ⟨some 64, _, _, _, _, _⟩) rfl (by kernel_rfl) (Or.inl ⟨by rfl, fun _ _ => by rfl⟩) hHeld ?_
        refine wpHB_tk hdir hsel hpan (i := 10) (oi := ⟨some 74, _, _, _, _, _⟩) rfl (by kernel_rfl) (Or.inl ⟨by rfl, fun _ _ => by rfl⟩) hHeld ?_
        refine wpHB_tk hdir hsel hpan (i := 11) (oi := ⟨some 75, _, _, _, _, _⟩) rfl (by kernel_rfl) (Or.inl ⟨by rfl, fun _ _ => by rfl⟩) hHeld ?_
        refine wpHB_tk hdir hsel hpan (i := 12) (oi := ⟨some 76, _, _, _, _, _⟩) rfl (by kernel_rfl) (Or.inl ⟨by rfl, fun _ _ => by rfl⟩) hHeld ?_
        refine wpHB_tk hdir hsel hpan (i := 14) (oi := ⟨some 15, _, _, _, _, _⟩) rfl (by kernel_rfl) (Or.inl ⟨by rfl, fun _ _ => by rfl⟩) hHeld ?_
        try simp only [Act.put, List.setIfInBounds_toArray, List.set_cons_zero, List.set_cons_succ]
        refine wpHB_ready (rs := [15]) (by kernel_rfl) (by simp) ?_
        refine AllHB.cons (by kernel_rfl) (o := ⟨none, _, _, _, _, _⟩) rfl (fun K hK => ?_) AllHB.nil
        rw [if_pos (by rfl)]
        refine wp_store_all 36 _ _ rfl _ 36 [] (pairA 0 0).toList [] (pairA 1 0).toList rfl rfl (gp.then_ (below_then hba (below_then hbd (below_then hbc (below_then hbb hbm))))) rfl (by kernel_rfl) (by simp [Value.oneCell']) ?_
        intro w8 g8 U8
        refine hK.out _ _ (Lib.hid (hHeld.out.trans (U8.b _ lb))) (fun hHeld => ?_)
        clear hK K
        try simp only [Act.put]
        refine wpHB_tail (by kernel_rfl) (by kernel_rfl) ?_
        clear hdir hsel hpan
        simp only [opsAt, List.getElem?_toArray, List.getElem?_cons_succ, List.getElem?_cons_zero, Option.toList_some, List.cons_append, List.nil_append]
        go_wp2
        exact hdone.out _ _ _ _ _ _ _ _ _ _ _ _ _ _ _ _ _ ⟨_, _, _, _, rfl, rfl, rfl, g8, hlM, lb, hHeld.out⟩
      exact AllHB.nil
    refine AllHB.cons (by kernel_rfl) (o := ⟨some 72, _, _, _, _, _⟩) rfl (fun K hK => ?_) ?_
    · go_simp
      refine name_k ?_
      intro Vd hVd
      obtain ⟨hqd, hbd⟩ := pats_new ⟨Pat.repl 0 5, p5⟩ hVd (HP5.out.then_ hHeld.out)
      clear hVd
      first | replace hqd : Pats Vd (some ⟨w9.heap.size, 0, none⟩) _ := hqd | skip
      refine hK.out _ _ (Lib.hid (below_then hHeld.out hbd)) (fun hHeld => ?_)
      clear hK K
      try simp only [Act.put, List.setIfInBounds_toArray, List.set_cons_zero, List.set_cons_succ]
      refine wpHB_ready (rs := [2]) (by kernel_rfl) (by simp) ?_
      refine AllHB.cons (by kernel_rfl) (o := ⟨some 67, _, _, _, _, _⟩) rfl (fun K hK => ?_) AllHB.nil
      go_simp
      (go_at_call 22; (with_reducible refine (HW.out _ _).mono ?_); rintro e wa ⟨⟨pma, rfl, hpa, _⟩, hba⟩)
      refine hK.out _ _ (Lib.hid (below_then hHeld.out hba)) (fun hHeld => ?_)
      clear hK K
      try simp only [Act.put, List.setIfInBounds_toArray, List.set_cons_zero, List.set_cons_succ]
      refine wpHB_ready (rs := [4]) (by kernel_rfl) (by simp) ?_
      refine AllHB.cons (by kernel_rfl) (o := ⟨some 69, _, _, _, _, _⟩) rfl (fun K hK => ?_) AllHB.nil
      go_simp
      (go_at_call 22; (with_reducible refine (HW.out _ _).mono ?_); rintro e wd ⟨⟨pmc, rfl, hpc, _⟩, hbc⟩)
      refine hK.out _ _ (Lib.hid (below_then hHeld.out hbc)) (fun hHeld => ?_)
      clear hK K
      try simp only [Act.put, List.setIfInBounds_toArray, List.set_cons_zero, List.set_cons_succ]
      refine wpHB_ready (rs := [5]) (by kernel_rfl) (by simp) ?_
      refine AllHB.cons (by kernel_rfl) (o := ⟨some 70, _, _, _, _, _⟩) rfl (fun K hK => ?_) AllHB.nil
      go_simp
      refine name_k ?_
      intro Vb hVb
      obtain ⟨hqb, hbb⟩ := pats_new2 ⟨Pat.waive 1, pma⟩ ⟨Pat.waive 0, pmc⟩ hVb (hpa.then_ hbc) (hpc.then_ (Below.refl _ _))
      clear hVb
      first | replace hqb : Pats Vb (some ⟨w9.heap.size, 0, none⟩) _ := hqb | skip
      refine hK.out _ _ (Lib.hid (below_then hHeld.out hbb)) (fun hHeld => ?_)
      clear hK K
      try simp only [Act.put, List.setIfInBounds_toArray, List.set_cons_zero, List.set_cons_succ]
      refine wpHB_ready (rs := [8]) (by kernel_rfl) (by simp) ?_
      refine AllHB.cons (by kernel_rfl) (o := ⟨some 73, _, _, _, _, _⟩) rfl (fun K hK => ?_) AllHB.nil
      go_simp
      (go_at_call 13; (with_reducible refine (HM9.out pma pmc _ _ _ (HCO.out.then_ hHeld.out) (hqb.then_ (Below.refl _ _)) (hqd.then_ (below_then hba (below_then hbc hbb)))).mono ?_); rintro e wm ⟨⟨AM, kM, M, rfl, hM, hqM, hlM⟩, hbm⟩)
      refine hK.out _ _ (Lib.hid (below_then hHeld.out hbm)) (fun hHeld => ?_)
      clear hK K
      try simp only [Act.put, List.setIfInBounds_toArray, List.set_cons_zero, List.set_cons_succ]
      refine wpHB_tk hdir hsel hpan (i := 9) (oi := ⟨some 64, _, _, _, _, _⟩) rfl (by kernel_rfl) (Or.inl ⟨by rfl, fun _ _ => by rfl⟩) hHeld ?_
      refine wpHB_tk hdir hsel hpan (i := 10) (oi := ⟨some 74, _, _, _, _, _⟩) rfl (by kernel_rfl) (Or.inl ⟨by rfl, fun _ _ => by rfl⟩) hHeld ?_
      refine wpHB_tk hdir hsel hpan (i := 11) (oi := ⟨some 75, _, _, _, _, _⟩) rfl (by kernel_rfl) (Or.inl ⟨by rfl, fun _ _ => by rfl⟩) hHeld ?_
      refine wpHB_tk hdir hsel hpan (i := 12) (oi := ⟨some 76, _, _, _, _, _⟩) rfl (by kernel_rfl) (Or.inl ⟨by rfl, fun _ _ => by rfl⟩) hHeld ?_
      refine wpHB_tk hdir hsel hpan (i := 14) (oi := ⟨some 15, _, _, _, _, _⟩) rfl (by kernel_rfl) (Or.inl ⟨by rfl, fun _ _ => by rfl⟩) hHeld ?_
      try simp only [Act.put, List.setIfInBounds_toArray, List.set_cons_zero, List.set_cons_succ]
      refine wpHB_ready (rs := [15]) (by kernel_rfl) (by simp) ?_
      refine AllHB.cons (by kernel_rfl) (o := ⟨none, _, _, _, _, _⟩) rfl (fun K hK => ?_) AllHB.nil
      rw [if_pos (by rfl)]
      refine wp_store_all 36 _ _ rfl _ 36 [] (pairA 0 0).toList [] (pairA 1 0).toList rfl rfl (gp.then_ (below_then hbd (below_then hba (below_then hbc (below_then hbb hbm))))) rfl (by kernel_rfl) (by simp [Value.oneCell']) ?_
      intro w8 g8 U8
      refine hK.out _ _ (Lib.hid (hHeld.out.trans (U8.b _ lb))) (fun hHeld => ?_)
      clear hK K
      try simp only [Act.put]
      refine wpHB_tail (by kernel_rfl) (by kernel_rfl) ?_
      clear hdir hsel hpan
      simp only [opsAt, List.getElem?_toArray, List.getElem?_cons_succ, List.getElem?_cons_zero, Option.toList_some, List.cons_append, List.nil_append]
      go_wp2
      exact hdone.out _ _ _ _ _ _ _ _ _ _ _ _ _ _ _ _ _ ⟨_, _, _, _, rfl, rfl, rfl, g8, hlM, lb, hHeld.out⟩
    exact AllHB.nil
  exact AllHB.nil
end Go.Proofs.Ytcplneglfbdooaa
