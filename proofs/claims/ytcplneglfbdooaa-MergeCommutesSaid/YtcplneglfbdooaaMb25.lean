/- Contracts of functions and plain laws, joined: Krq6. -/
import Derived.Test.YtcplneglfbdooaaMb24
/- The walk of region 6 of the law's head. -/
namespace Go.Proofs.Ytcplneglfbdooaa
open Go.RowKit

set_option maxRecDepth 100000 in
set_option maxHeartbeats 6400000 in
theorem head_r6 {Q : Exit → Act → World → Prop} (hQ : PanOk Q) (m : Cm) (bc b4 b5 : Nat) (p5 : Pm) (w6 : World) {x0 x6 x7 x8 x9 x10 x11 x12 x13 x14 x15 x16 x17 x18 x19 x20 x21 x22 x23 x24 x25 x26 x27 x28 x29 x30 x31 x32 x33 x34 x35 x36 x37 x38 x39 x40 x41 x42 x43 x44 x45 x46 x47 x48 x49 x50 x51 x52 x53 x54 x55 x56 x57 x58 x59 x60 x61 x62 x63 x64 x65 x66 x67 x68 x69 x70 x71 x72 x73 x74 x75 x76 x77 x78 x79 x80 x81 x82 x83 x84 x85 x86 x87 x88 x89 x90 x91 x92 x93 x94 x95 x96 x97 x98 x99 x100 x101 x102 x103 x104 x105 x106 x107 x108 x109 x110 x111 x112 x113 x114 x115 x116 x117 x118 x119 x120 x121 x122 x123 x124 x125 x126 x127 x128 x129 x130 x131 x132 x133 x134 x135 x136 x137 x138 x139 x140 x141 x142 x143 x144 x145 x146 x147 x148 x149 x150 x151 x152 x153 x154 x155 x156 x157 x158 x159 x160 x161 x162 x163 x164 x165 x166 x167 x168 x169 x170 x171 x172 x173 x174 x175 x176 x177 x178 x179 x180 x181 x182 x183 x184 x185 x186 x187 x188 x189 : Value} (GC : Hid (Blk w6 bc 27 (coA Con.ex m))) (_G4 : Hid (Blk w6 b4 49 (pL (Pat.plus 7) ⟨none, 0, none, 0⟩))) (_G5 : Hid (Blk w6 b5 49 (pL (Pat.repl 0 5) p5))) (HCO : Hid (Cont w6 Con.ex m)) (_HP5 : Hid (PatM w6 (Pat.repl 0 5) p5)) (_HP4 : Hid (PatM w6 (Pat.plus 7) ⟨none, 0, none, 0⟩))
    (hdone : Hid (∀ (v6 v7 v8 v28 v29 v30 v31 v32 v33 v34 v35 v36 v37 v38 v39 : Value) (W : World), (∃ A cap b L, v6 = .slice A (L : List Pk).length cap ∧ v7 = .pointer (some ⟨b, 0, none⟩) ∧ v8 = .int .i64 0 ∧ Blk W b 36 (pairA 0 0) ∧ Pats W A L ∧ pats L = [Pat.waive 0, Pat.span 1 5] ∧ L.length ≤ cap ∧ w6.heap.size ≤ b ∧ Below w6.heap.size w6 W) → Q .normal ⟨#[x0, .pointer (some ⟨bc, 0, none⟩), .func (.func 22) #[] #[], .func (.func 23) #[] #[], .pointer (some ⟨b4, 0, none⟩), .pointer (some ⟨b5, 0, none⟩), v6, v7, v8, x9, x10, x11, x12, x13, x14, x15, x16, x17, x18, x19, x20, x21, x22, x23, x24, x25, x26, x27, v28, v29, v30, v31, v32, v33, v34, v35, v36, v37, v38, v39, x40, x41, x42, x43, x44, x45, x46, x47, x48, x49, x50, x51, x52, x53, x54, x55, x56, x57, x58, x59, x60, x61, x62, x63, x64, x65, x66, x67, x68, x69, x70, x71, x72, x73, x74, x75, x76, x77, x78, x79, x80, x81, x82, x83, x84, x85, x86, x87, x88, x89, x90, x91, x92, x93, x94, x95, x96, x97, x98, x99, x100, x101, x102, x103, x104, x105, x106, x107, x108, x109, x110, x111, x112, x113, x114, x115, x116, x117, x118, x119, x120, x121, x122, x123, x124, x125, x126, x127, x128, x129, x130, x131, x132, x133, x134, x135, x136, x137, x138, x139, x140, x141, x142, x143, x144, x145, x146, x147, x148, x149, x150, x151, x152, x153, x154, x155, x156, x157, x158, x159, x160, x161, x162, x163, x164, x165, x166, x167, x168, x169, x170, x171, x172, x173, x174, x175, x176, x177, x178, x179, x180, x181, x182, x183, x184, x185, x186, x187, x188, x189], []⟩ W)) :
    (atR Try.f9 6).wp Try.prog Q ⟨#[x0, .pointer (some ⟨bc, 0, none⟩), .func (.func 22) #[] #[], .func (.func 23) #[] #[], .pointer (some ⟨b4, 0, none⟩), .pointer (some ⟨b5, 0, none⟩), x6, x7, x8, x9, x10, x11, x12, x13, x14, x15, x16, x17, x18, x19, x20, x21, x22, x23, x24, x25, x26, x27, x28, x29, x30, x31, x32, x33, x34, x35, x36, x37, x38, x39, x40, x41, x42, x43, x44, x45, x46, x47, x48, x49, x50, x51, x52, x53, x54, x55, x56, x57, x58, x59, x60, x61, x62, x63, x64, x65, x66, x67, x68, x69, x70, x71, x72, x73, x74, x75, x76, x77, x78, x79, x80, x81, x82, x83, x84, x85, x86, x87, x88, x89, x90, x91, x92, x93, x94, x95, x96, x97, x98, x99, x100, x101, x102, x103, x104, x105, x106, x107, x108, x109, x110, x111, x112, x113, x114, x115, x116, x117, x118, x119, x120, x121, x122, x123, x124, x125, x126, x127, x128, x129, x130, x131, x132, x133, x134, x135, x136, x137, x138, x139, x140, x141, x142, x143, x144, x145, x146, x147, x148, x149, x150, x151, x152, x153, x154, x155, x156, x157, x158, x159, x160, x161, x162, x163, x164, x165, x166, x167, x168, x169, x170, x171, x172, x173, x174, x175, x176, x177, x178, x179, x180, x181, x182, x183, x184, x185, x186, x187, x188, x189], []⟩ w6 := by
  conv => { arg 2; whnf }
  have HW := Lib.hid (fun i W => lwaive_any i W)
  have HS := Lib.hid (fun i d W => lspan_any i d W)
  have HM6 := Lib.hid (fun (x y : Pm) A1 A2 W h h1 h2 => mrg_at Con.ex m [⟨Pat.waive 0, x⟩] [⟨Pat.span 1 5, y⟩] A1 A2 1 1 W 0 0 0 [Pat.waive 0, Pat.span 1 5] h h1 h2 rfl rfl ex6 (by rw [if_pos rfl]; exact ex6L))
  refine wp_region_hb (fun w' => Hid (Below w6.heap.size w6 w')) [0, 1, 2, 3, 4, 5, 6, 7, 8, 9, 10, 11, 12, 13, 14] [15] (by kernel_rfl) (by kernel_rfl) hQ (Lib.hid (Below.drew (Below.refl _ _))) (fun hdir hsel hpan hHeld => ?_)
  refine wpHB_tk hdir hsel hpan (i := 0) (oi := ⟨some 29, _, _, _, _, _⟩) rfl (by kernel_rfl) (yieldsIf_row (by rfl) 27 _ rfl bc rfl 27 _ (fun w hw => (GC.out.then_ hw.out)) ⟨_, Try.underlying27⟩ (by kernel_rfl)) hHeld ?_
  refine wpHB_tk hdir hsel hpan (i := 1) (oi := ⟨some 30, _, _, _, _, _⟩) (v := .func (.func 22) #[] #[]) rfl (by kernel_rfl) (Or.inl ⟨by rfl, fun w hw => by rfl⟩) hHeld ?_
  refine wpHB_tk hdir hsel hpan (i := 4) (oi := ⟨some 33, _, _, _, _, _⟩) (v := .func (.func 23) #[] #[]) rfl (by kernel_rfl) (Or.inl ⟨by rfl, fun w hw => by rfl⟩) hHeld ?_
  try simp only [Act.put, List.setIfInBounds_toArray, List.set_cons_zero, List.set_cons_succ]
  refine wpHB_ready (rs := [2, 12]) (by kernel_rfl) (by simp) ?_
  refine AllHB.cons (by kernel_rfl) (o := ⟨some 31, _, _, _, _, _⟩) rfl (fun K hK => ?_) ?_
  · go_simp
    (go_at_call 22; (with_reducible refine (HW.out _ _).mono ?_); rintro e wa ⟨⟨pma, rfl, hpa, _⟩, hba⟩)
    refine hK.out _ _ (Lib.hid (below_then hHeld.out hba)) (fun hHeld => ?_)
    clear hK K
    try simp only [Act.put, List.setIfInBounds_toArray, List.set_cons_zero, List.set_cons_succ]
    refine wpHB_ready (rs := [3, 5, 12]) (by kernel_rfl) (by simp) ?_
    refine AllHB.cons (by kernel_rfl) (o := ⟨some 32, _, _, _, _, _⟩) rfl (fun K hK => ?_) ?_
    · go_simp
      refine name_k ?_
      intro Vb hVb
      obtain ⟨hqb, hbb⟩ := pats_new ⟨Pat.waive 0, pma⟩ hVb (hpa.then_ (Below.refl _ _))
      clear hVb
      first | replace hqb : Pats Vb (some ⟨w6.heap.size, 0, none⟩) _ := hqb | skip
      refine hK.out _ _ (Lib.hid (below_then hHeld.out hbb)) (fun hHeld => ?_)
      clear hK K
      try simp only [Act.put, List.setIfInBounds_toArray, List.set_cons_zero, List.set_cons_succ]
      refine wpHB_ready (rs := [5, 12]) (by kernel_rfl) (by simp) ?_
      refine AllHB.cons (by kernel_rfl) (o := ⟨some 34, _, _, _, _, _⟩) rfl (fun K hK => ?_) ?_
      · go_simp
        (go_at_call 23; (with_reducible refine (HS.out _ _ _).mono ?_); rintro e wd ⟨⟨pmc, rfl, hpc, _⟩, hbc⟩)
        refine hK.out _ _ (Lib.hid (below_then hHeld.out hbc)) (fun hHeld => ?_)
        clear hK K
        try simp only [Act.put, List.setIfInBounds_toArray, List.set_cons_zero, List.set_cons_succ]
        refine wpHB_ready (rs := [6, 12]) (by kernel_rfl) (by simp) ?_
        refine AllHB.cons (by kernel_rfl) (o := ⟨some 35, _, _, _, _, _⟩) rfl (fun K hK => ?_) ?_
        · go_simp
          refine name_k ?_
          intro Vd hVd
          obtain ⟨hqd, hbd⟩ := pats_new ⟨Pat.span 1 5, pmc⟩ hVd (hpc.then_ (Below.refl _ _))
          clear hVd
          first | replace hqd : Pats Vd (some ⟨w6.heap.size, 0, none⟩) _ := hqd | skip
          refine hK.out _ _ (Lib.hid (below_then hHeld.out hbd)) (fun hHeld => ?_)
          clear hK K
          try simp only [Act.put, List.setIfInBounds_toArray, List.set_cons_zero, List.set_cons_succ]
          refine wpHB_ready (rs := [7, 12]) (by kernel_rfl) (by simp) ?_
          refine AllHB.cons (by kernel_rfl) (o := ⟨some 36, _, _, _, _, _⟩) rfl (fun K hK => ?_) ?_
          · go_simp
            (go_at_call 13; (with_reducible refine (HM6.out pma pmc _ _ _ (HCO.out.then_ hHeld.out) (hqb.then_ (below_then hbc hbd)) (hqd.then_ (Below.refl _ _))).mono ?_); rintro e wm ⟨⟨AM, kM, M, rfl, hM, hqM, hlM⟩, hbm⟩)
            refine hK.out _ _ (Lib.hid (below_then hHeld.out hbm)) (fun hHeld => ?_)
            clear hK K
            try simp only [Act.put, List.setIfInBounds_toArray, List.set_cons_zero, List.set_cons_succ]
            refine wpHB_tk hdir hsel hpan (i := 8) (oi := ⟨some 28, _, _, _, _, _⟩) rfl (by kernel_rfl) (Or.inl ⟨by rfl, fun _ _ => by rfl⟩) hHeld ?_
            refine wpHB_tk hdir hsel hpan (i := 9) (oi := ⟨some 37, _, _, _, _, _⟩) rfl (by kernel_rfl) (Or.inl ⟨by rfl, fun _ _ => by rfl⟩) hHeld ?_
            refine wpHB_tk hdir hsel hpan (i := 10) (oi := ⟨some 38, _, _, _, _, _⟩) rfl (by kernel_rfl) (Or.inl ⟨by rfl, fun _ _ => by rfl⟩) hHeld ?_
            refine wpHB_tk hdir hsel hpan (i := 11) (oi := ⟨some 39, _, _, _, _, _⟩) rfl (by kernel_rfl) (Or.inl ⟨by rfl, fun _ _ => by rfl⟩) hHeld ?_
            try simp only [Act.put, List.setIfInBounds_toArray, List.set_cons_zero, List.set_cons_succ]
            refine wpHB_ready (rs := [12]) (by kernel_rfl) (by simp) ?_
            refine AllHB.cons (by kernel_rfl) (o := ⟨some 7, _, _, _, _, _⟩) rfl (fun K hK => ?_) AllHB.nil
            go_simp
            have lb := hHeld.out.size
            refine name_k ?_
            intro Vp hVp
            first | obtain ⟨gp, hbp⟩ := pair_new hVp | obtain ⟨gp, hbp⟩ := pair_new (W := w6.drew) hVp
            clear hVp
            refine hK.out _ _ (Lib.hid (below_then hHeld.out hbp)) (fun hHeld => ?_)
            clear hK K
            try simp only [Act.put, List.setIfInBounds_toArray, List.set_cons_zero, List.set_cons_succ]
            refine wpHB_tk hdir hsel hpan (i := 13) (oi := ⟨some 6, _, _, _, _, _⟩) rfl (by kernel_rfl) (Or.inl ⟨by rfl, fun _ _ => by rfl⟩) hHeld ?_
            try simp only [Act.put, List.setIfInBounds_toArray, List.set_cons_zero, List.set_cons_succ]
            refine wpHB_ready (rs := [14]) (by kernel_rfl) (by simp) ?_
            refine AllHB.cons (by kernel_rfl) (o := ⟨none, _, _, _, _, _⟩) rfl (fun K hK => ?_) AllHB.nil
            rw [if_pos (by rfl)]
            refine wp_store_all 36 _ _ rfl _ 36 [] (pairA 0 0).toList [] (pairA 0 0).toList rfl rfl (gp.then_ (Below.refl _ _)) rfl (by kernel_rfl) (by simp [Value.oneCell']) ?_
            intro w8 g8 U8
            have hq8 := (hqM.then_ hbp).same U8 (gp.then_ (Below.refl _ _)) g8
            refine hK.out _ _ (Lib.hid (hHeld.out.trans (U8.b _ lb))) (fun hHeld => ?_)
            clear hK K
            try simp only [Act.put]
            refine wpHB_tail (by kernel_rfl) (by kernel_rfl) ?_
            clear hdir hsel hpan
            simp only [opsAt, List.getElem?_toArray, List.getElem?_cons_succ, List.getElem?_cons_zero, Option.toList_some, List.cons_append, List.nil_append]
            go_wp2
            exact hdone.out _ _ _ _ _ _ _ _ _ _ _ _ _ _ _ _ ⟨_, _, _, _, rfl, rfl, rfl, g8, hq8, hM, hlM, lb, hHeld.out⟩
          refine AllHB.cons (by kernel_rfl) (o := ⟨some 7, _, _, _, _, _⟩) rfl (fun K hK => ?_) ?_
          · go_simp
            have lb := hHeld.out.size
            refine name_k ?_
            intro Vp hVp
            first | obtain ⟨gp, hbp⟩ := pair_new hVp | obtain ⟨gp, hbp⟩ := pair_new (W := w6.drew) hVp
            clear hVp
            refine hK.out _ _ (Lib.hid (below_then hHeld.out hbp)) (fun hHeld => ?_)
            clear hK K
            try simp only [Act.put, List.setIfInBounds_toArray, List.set_cons_zero, List.set_cons_succ]
            refine wpHB_ready (rs := [7]) (by kernel_rfl) (by simp) ?_
            refine AllHB.cons (by kernel_rfl) (o := ⟨some 36, _, _, _, _, _⟩) rfl (fun K hK => ?_) AllHB.nil
            go_simp
            (go_at_call 13; (with_reducible refine (HM6.out pma pmc _ _ _ (HCO.out.then_ hHeld.out) (hqb.then_ (below_then hbc (below_then hbd hbp))) (hqd.then_ hbp)).mono ?_); rintro e wm ⟨⟨AM, kM, M, rfl, hM, hqM, hlM⟩, hbm⟩)
            refine hK.out _ _ (Lib.hid (below_then hHeld.out hbm)) (fun hHeld => ?_)
            clear hK K
            try simp only [Act.put, List.setIfInBounds_toArray, List.set_cons_zero, List.set_cons_succ]
            refine wpHB_tk hdir hsel hpan (i := 8) (oi := ⟨some 28, _, _, _, _, _⟩) rfl (by kernel_rfl) (Or.inl ⟨by rfl, fun _ _ => by rfl⟩) hHeld ?_
            refine wpHB_tk hdir hsel hpan (i := 9) (oi := ⟨some 37, _, _, _, _, _⟩) rfl (by kernel_rfl) (Or.inl ⟨by rfl, fun _ _ => by rfl⟩) hHeld ?_
            refine wpHB_tk hdir hsel hpan (i := 10) (oi := ⟨some 38, _, _, _, _, _⟩) rfl (by kernel_rfl) (Or.inl ⟨by rfl, fun _ _ => by rfl⟩) hHeld ?_
            refine wpHB_tk hdir hsel hpan (i := 11) (oi := ⟨some 39, _, _, _, _, _⟩) rfl (by kernel_rfl) (Or.inl ⟨by rfl, fun _ _ => by rfl⟩) hHeld ?_
            refine wpHB_tk hdir hsel hpan (i := 13) (oi := ⟨some 6, _, _, _, _, _⟩) rfl (by kernel_rfl) (Or.inl ⟨by rfl, fun _ _ => by rfl⟩) hHeld ?_
            try simp only [Act.put, List.setIfInBounds_toArray, List.set_cons_zero, List.set_cons_succ]
            refine wpHB_ready (rs := [14]) (by kernel_rfl) (by simp) ?_
            refine AllHB.cons (by kernel_rfl) (o := ⟨none, _, _, _, _, _⟩) rfl (fun K hK => ?_) AllHB.nil
            rw [if_pos (by rfl)]
            refine wp_store_all 36 _ _ rfl _ 36 [] (pairA 0 0).toList [] (pairA 0 0).toList rfl rfl (gp.then_ hbm) rfl (by kernel_rfl) (by simp [Value.oneCell']) ?_
            intro w8 g8 U8
            have hq8 := (hqM.then_ (Below.refl _ _)).same U8 (gp.then_ hbm) g8
            refine hK.out _ _ (Lib.hid (hHeld.out.trans (U8.b _ lb))) (fun hHeld => ?_)
            clear hK K
            try simp only [Act.put]
            refine wpHB_tail (by kernel_rfl) (by kernel_rfl) ?_
            clear hdir hsel hpan
            simp only [opsAt, List.getElem?_toArray, List.getElem?_cons_succ, List.getElem?_cons_zero, Option.toList_some, List.cons_append, List.nil_append]
            go_wp2
            exact hdone.out _ _ _ _ _ _ _ _ _ _ _ _ _ _ _ _ ⟨_, _, _, _, rfl, rfl, rfl, g8, hq8, hM, hlM, lb, hHeld.out⟩
          exact AllHB.nil
        refine AllHB.cons (by kernel_rfl) (o := ⟨some 7, _, _, _, _, _⟩) rfl (fun K hK => ?_) ?_
        · go_simp
          have lb := hHeld.out.size
          refine name_k ?_
          intro Vp hVp
          first | obtain ⟨gp, hbp⟩ := pair_new hVp | obtain ⟨gp, hbp⟩ := pair_new (W := w6.drew) hVp
          clear hVp
          refine hK.out _ _ (Lib.hid (below_then hHeld.out hbp)) (fun hHeld => ?_)
          clear hK K
          try simp only [Act.put, List.setIfInBounds_toArray, List.set_cons_zero, List.set_cons_succ]
          refine wpHB_ready (rs := [6]) (by kernel_rfl) (by simp) ?_
          refine AllHB.cons (by kernel_rfl) (o := ⟨some 35, _, _, _, _, _⟩) rfl (fun K hK => ?_) AllHB.nil
          go_simp
          refine name_k ?_
          intro Vd hVd
          obtain ⟨hqd, hbd⟩ := pats_new ⟨Pat.span 1 5, pmc⟩ hVd (hpc.then_ hbp)
          clear hVd
          first | replace hqd : Pats Vd (some ⟨w6.heap.size, 0, none⟩) _ := hqd | skip
          refine hK.out _ _ (Lib.hid (below_then hHeld.out hbd)) (fun hHeld => ?_)
          clear hK K
          try simp only [Act.put, List.setIfInBounds_toArray, List.set_cons_zero, List.set_cons_succ]
          refine wpHB_ready (rs := [7]) (by kernel_rfl) (by simp) ?_
          refine AllHB.cons (by kernel_rfl) (o := ⟨some 36, _, _, _, _, _⟩) rfl (fun K hK => ?_) AllHB.nil
          go_simp
          (go_at_call 13; (with_reducible refine (HM6.out pma pmc _ _ _ (HCO.out.then_ hHeld.out) (hqb.then_ (below_then hbc (below_then hbp hbd))) (hqd.then_ (Below.refl _ _))).mono ?_); rintro e wm ⟨⟨AM, kM, M, rfl, hM, hqM, hlM⟩, hbm⟩)
          refine hK.out _ _ (Lib.hid (below_then hHeld.out hbm)) (fun hHeld => ?_)
          clear hK K
          try simp only [Act.put, List.setIfInBounds_toArray, List.set_cons_zero, List.set_cons_succ]
          refine wpHB_tk hdir hsel hpan (i := 8) (oi := ⟨some 28, _, _, _, _, _⟩) rfl (by kernel_rfl) (Or.inl ⟨by rfl, fun _ _ => by rfl⟩) hHeld ?_
          refine wpHB_tk hdir hsel hpan (i := 9) (oi := ⟨some 37, _, _, _, _, _⟩) rfl (by kernel_rfl) (Or.inl ⟨by rfl, fun _ _ => by rfl⟩) hHeld ?_
          refine wpHB_tk hdir hsel hpan (i := 10) (oi := ⟨some 38, _, _, _, _, _⟩) rfl (by kernel_rfl) (Or.inl ⟨by rfl, fun _ _ => by rfl⟩) hHeld ?_
          refine wpHB_tk hdir hsel hpan (i := 11) (oi := ⟨some 39, _, _, _, _, _⟩) rfl (by kernel_rfl) (Or.inl ⟨by rfl, fun _ _ => by rfl⟩) hHeld ?_
          refine wpHB_tk hdir hsel hpan (i := 13) (oi := ⟨some 6, _, _, _, _, _⟩) rfl (by kernel_rfl) (Or.inl ⟨by rfl, fun _ _ => by rfl⟩) hHeld ?_
          try simp only [Act.put, List.setIfInBounds_toArray, List.set_cons_zero, List.set_cons_succ]
          refine wpHB_ready (rs := [14]) (by kernel_rfl) (by simp) ?_
          refine AllHB.cons (by kernel_rfl) (o := ⟨none, _, _, _, _, _⟩) rfl (fun K hK => ?_) AllHB.nil
          rw [if_pos (by rfl)]
          refine wp_store_all 36 _ _ rfl _ 36 [] (pairA 0 0).toList [] (pairA 0 0).toList rfl rfl (gp.then_ (below_then hbd hbm)) rfl (by kernel_rfl) (by simp [Value.oneCell']) ?_
          intro w8 g8 U8
          have hq8 := (hqM.then_ (Below.refl _ _)).same U8 (gp.then_ (below_then hbd hbm)) g8
          refine hK.out _ _ (Lib.hid (hHeld.out.trans (U8.b _ lb))) (fun hHeld => ?_)
          clear hK K
          try simp only [Act.put]
          refine wpHB_tail (by kernel_rfl) (by kernel_rfl) ?_
          clear hdir hsel hpan
          simp only [opsAt, List.getElem?_toArray, List.getElem?_cons_succ, List.getElem?_cons_zero, Option.toList_some, List.cons_append, List.nil_append]
          go_wp2
          exact hdone.out _ _ _ _ _ _ _ _ _ _ _ _ _ _ _ _ ⟨_, _, _, _, rfl, rfl, rfl, g8, hq8, hM, hlM, lb, hHeld.out⟩
        exact AllHB.nil
      refine AllHB.cons (by kernel_rfl) (o := ⟨some 7, _, _, _, _, _⟩) rfl (fun K hK => ?_) ?_
      · go_simp
        have lb := hHeld.out.size
        refine name_k ?_
        intro Vp hVp
        first | obtain ⟨gp, hbp⟩ := pair_new hVp | obtain ⟨gp, hbp⟩ := pair_new (W := w6.drew) hVp
        clear hVp
        refine hK.out _ _ (Lib.hid (below_then hHeld.out hbp)) (fun hHeld => ?_)
        clear hK K
        try simp only [Act.put, List.setIfInBounds_toArray, List.set_cons_zero, List.set_cons_succ]
        refine wpHB_ready (rs := [5]) (by kernel_rfl) (by simp) ?_
        refine AllHB.cons (by kernel_rfl) (o := ⟨some 34, _, _, _, _, _⟩) rfl (fun K hK => ?_) AllHB.nil
        go_simp
        (go_at_call 23; (with_reducible refine (HS.out _ _ _).mono ?_); rintro e wd ⟨⟨pmc, rfl, hpc, _⟩, hbc⟩)
        refine hK.out _ _ (Lib.hid (below_then hHeld.out hbc)) (fun hHeld => ?_)
        clear hK K
        try simp only [Act.put, List.setIfInBounds_toArray, List.set_cons_zero, List.set_cons_succ]
        refine wpHB_ready (rs := [6]) (by kernel_rfl) (by simp) ?_
        refine AllHB.cons (by kernel_rfl) (o := ⟨some 35, _, _, _, _, _⟩) rfl (fun K hK => ?_) AllHB.nil
        go_simp
        refine name_k ?_
        intro Vd hVd
        obtain ⟨hqd, hbd⟩ := pats_new ⟨Pat.span 1 5, pmc⟩ hVd (hpc.then_ (Below.refl _ _))
        clear hVd
        first | replace hqd : Pats Vd (some ⟨w6.heap.size, 0, none⟩) _ := hqd | skip
        refine hK.out _ _ (Lib.hid (below_then hHeld.out hbd)) (fun hHeld => ?_)
        clear hK K
        try simp only [Act.put, List.setIfInBounds_toArray, List.set_cons_zero, List.set_cons_succ]
        refine wpHB_ready (rs := [7]) (by kernel_rfl) (by simp) ?_
        refine AllHB.cons (by kernel_rfl) (o := ⟨some 36, _, _, _, _, _⟩) rfl (fun K hK => ?_) AllHB.nil
        go_simp
        (go_at_call 13; (with_reducible refine (HM6.out pma pmc _ _ _ (HCO.out.then_ hHeld.out) (hqb.then_ (below_then hbp (below_then hbc hbd))) (hqd.then_ (Below.refl _ _))).mono ?_); rintro e wm ⟨⟨AM, kM, M, rfl, hM, hqM, hlM⟩, hbm⟩)
        refine hK.out _ _ (Lib.hid (below_then hHeld.out hbm)) (fun hHeld => ?_)
        clear hK K
        try simp only [Act.put, List.setIfInBounds_toArray, List.set_cons_zero, List.set_cons_succ]
        refine wpHB_tk hdir hsel hpan (i := 8) (oi := ⟨some 28, _, _, _, _, _⟩) rfl (by kernel_rfl) (Or.inl ⟨by rfl, fun _ _ => by rfl⟩) hHeld ?_
        refine wpHB_tk hdir hsel hpan (i := 9) (oi := ⟨some 37, _, _, _, _, _⟩) rfl (by kernel_rfl) (Or.inl ⟨by rfl, fun _ _ => by rfl⟩) hHeld ?_
        refine wpHB_tk hdir hsel hpan (i := 10) (oi := ⟨some 38, _, _, _, _, _⟩) rfl (by kernel_rfl) (Or.inl ⟨by rfl, fun _ _ => by rfl⟩) hHeld ?_
        refine wpHB_tk hdir hsel hpan (i := 11) (oi := ⟨some 39, _, _, _, _, _⟩) rfl (by kernel_rfl) (Or.inl ⟨by rfl, fun _ _ => by rfl⟩) hHeld ?_
        refine wpHB_tk hdir hsel hpan (i := 13) (oi := ⟨some 6, _, _, _, _, _⟩) rfl (by kernel_rfl) (Or.inl ⟨by rfl, fun _ _ => by rfl⟩) hHeld ?_
        try simp only [Act.put, List.setIfInBounds_toArray, List.set_cons_zero, List.set_cons_succ]
        refine wpHB_ready (rs := [14]) (by kernel_rfl) (by simp) ?_
        refine AllHB.cons (by kernel_rfl) (o := ⟨none, _, _, _, _, _⟩) rfl (fun K hK => ?_) AllHB.nil
        rw [if_pos (by rfl)]
        refine wp_store_all 36 _ _ rfl _ 36 [] (pairA 0 0).toList [] (pairA 0 0).toList rfl rfl (gp.then_ (below_then hbc (below_then hbd hbm))) rfl (by kernel_rfl) (by simp [Value.oneCell']) ?_
        intro w8 g8 U8
        have hq8 := (hqM.then_ (Below.refl _ _)).same U8 (gp.then_ (below_then hbc (below_then hbd hbm))) g8
        refine hK.out _ _ (Lib.hid (hHeld.out.trans (U8.b _ lb))) (fun hHeld => ?_)
        clear hK K
        try simp only [Act.put]
        refine wpHB_tail (by kernel_rfl) (by kernel_rfl) ?_
        clear hdir hsel hpan
        simp only [opsAt, List.getElem?_toArray, List.getElem?_cons_succ, List.getElem?_cons_zero, Option.toList_some, List.cons_append, List.nil_append]
        go_wp2
        exact hdone.out _ _ _ _ _ _ _ _ _ _ _ _ _ _ _ _ ⟨_, _, _, _, rfl, rfl, rfl, g8, hq8, hM, hlM, lb, hHeld.out⟩
      exact AllHB.nil
    refine AllHB.cons (by kernel_rfl) (o := ⟨some 34, _, _, _, _, _⟩) rfl (fun K hK => ?_) ?_
    · go_simp
      (go_at_call 23; (with_reducible refine (HS.out _ _ _).mono ?_); rintro e wd ⟨⟨pmc, rfl, hpc, _⟩, hbc⟩)
      refine hK.out _ _ (Lib.hid (below_then hHeld.out hbc)) (fun hHeld => ?_)
      clear hK K
      try simp only [Act.put, List.setIfInBounds_toArray, List.set_cons_zero, List.set_cons_succ]
      refine wpHB_ready (rs := [3, 6, 12]) (by kernel_rfl) (by simp) ?_
      refine AllHB.cons (by kernel_rfl) (o := ⟨some 32, _, _, _, _, _⟩) rfl (fun K hK => ?_) ?_
      · go_simp
        refine name_k ?_
        intro Vb hVb
        obtain ⟨hqb, hbb⟩ := pats_new ⟨Pat.waive 0, pma⟩ hVb (hpa.then_ hbc)
        clear hVb
        first | replace hqb : Pats Vb (some ⟨w6.heap.size, 0, none⟩) _ := hqb | skip
        refine hK.out _ _ (Lib.hid (below_then hHeld.out hbb)) (fun hHeld => ?_)
        clear hK K
        try simp only [Act.put, List.setIfInBounds_toArray, List.set_cons_zero, List.set_cons_succ]
        refine wpHB_ready (rs := [6, 12]) (by kernel_rfl) (by simp) ?_
        refine AllHB.cons (by kernel_rfl) (o := ⟨some 35, _, _, _, _, _⟩) rfl (fun K hK => ?_) ?_
        · go_simp
          refine name_k ?_
          intro Vd hVd
          obtain ⟨hqd, hbd⟩ := pats_new ⟨Pat.span 1 5, pmc⟩ hVd (hpc.then_ hbb)
          clear hVd
          first | replace hqd : Pats Vd (some ⟨w6.heap.size, 0, none⟩) _ := hqd | skip
          refine hK.out _ _ (Lib.hid (below_then hHeld.out hbd)) (fun hHeld => ?_)
          clear hK K
          try simp only [Act.put, List.setIfInBounds_toArray, List.set_cons_zero, List.set_cons_succ]
          refine wpHB_ready (rs := [7, 12]) (by kernel_rfl) (by simp) ?_
          refine AllHB.cons (by kernel_rfl) (o := ⟨some 36, _, _, _, _, _⟩) rfl (fun K hK => ?_) ?_
          · go_simp
            (go_at_call 13; (with_reducible refine (HM6.out pma pmc _ _ _ (HCO.out.then_ hHeld.out) (hqb.then_ hbd) (hqd.then_ (Below.refl _ _))).mono ?_); rintro e wm ⟨⟨AM, kM, M, rfl, hM, hqM, hlM⟩, hbm⟩)
            refine hK.out _ _ (Lib.hid (below_then hHeld.out hbm)) (fun hHeld => ?_)
            clear hK K
            try simp only [Act.put, List.setIfInBounds_toArray, List.set_cons_zero, List.set_cons_succ]
            refine wpHB_tk hdir hsel hpan (i := 8) (oi := ⟨some 28, _, _, _, _, _⟩) rfl (by kernel_rfl) (Or.inl ⟨by rfl, fun _ _ => by rfl⟩) hHeld ?_
            refine wpHB_tk hdir hsel hpan (i := 9) (oi := ⟨some 37, _, _, _, _, _⟩) rfl (by kernel_rfl) (Or.inl ⟨by rfl, fun _ _ => by rfl⟩) hHeld ?_
            refine wpHB_tk hdir hsel hpan (i := 10) (oi := ⟨some 38, _, _, _, _, _⟩) rfl (by kernel_rfl) (Or.inl ⟨by rfl, fun _ _ => by rfl⟩) hHeld ?_
            refine wpHB_tk hdir hsel hpan (i := 11) (oi := ⟨some 39, _, _, _, _, _⟩) rfl (by kernel_rfl) (Or.inl ⟨by rfl, fun _ _ => by rfl⟩) hHeld ?_
            try simp only [Act.put, List.setIfInBounds_toArray, List.set_cons_zero, List.set_cons_succ]
            refine wpHB_ready (rs := [12]) (by kernel_rfl) (by simp) ?_
            refine AllHB.cons (by kernel_rfl) (o := ⟨some 7, _, _, _, _, _⟩) rfl (fun K hK => ?_) AllHB.nil
            go_simp
            have lb := hHeld.out.size
            refine name_k ?_
            intro Vp hVp
            first | obtain ⟨gp, hbp⟩ := pair_new hVp | obtain ⟨gp, hbp⟩ := pair_new (W := w6.drew) hVp
            clear hVp
            refine hK.out _ _ (Lib.hid (below_then hHeld.out hbp)) (fun hHeld => ?_)
            clear hK K
            try simp only [Act.put, List.setIfInBounds_toArray, List.set_cons_zero, List.set_cons_succ]
            refine wpHB_tk hdir hsel hpan (i := 13) (oi := ⟨some 6, _, _, _, _, _⟩) rfl (by kernel_rfl) (Or.inl ⟨by rfl, fun _ _ => by rfl⟩) hHeld ?_
            try simp only [Act.put, List.setIfInBounds_toArray, List.set_cons_zero, List.set_cons_succ]
            refine wpHB_ready (rs := [14]) (by kernel_rfl) (by simp) ?_
            refine AllHB.cons (by kernel_rfl) (o := ⟨none, _, _, _, _, _⟩) rfl (fun K hK => ?_) AllHB.nil
            rw [if_pos (by rfl)]
            refine wp_store_all 36 _ _ rfl _ 36 [] (pairA 0 0).toList [] (pairA 0 0).toList rfl rfl (gp.then_ (Below.refl _ _)) rfl (by kernel_rfl) (by simp [Value.oneCell']) ?_
            intro w8 g8 U8
            have hq8 := (hqM.then_ hbp).same U8 (gp.then_ (Below.refl _ _)) g8
            refine hK.out _ _ (Lib.hid (hHeld.out.trans (U8.b _ lb))) (fun hHeld => ?_)
            clear hK K
            try simp only [Act.put]
            refine wpHB_tail (by kernel_rfl) (by kernel_rfl) ?_
            clear hdir hsel hpan
            simp only [opsAt, List.getElem?_toArray, List.getElem?_cons_succ, List.getElem?_cons_zero, Option.toList_some, List.cons_append, List.nil_append]
            go_wp2
            exact hdone.out _ _ _ _ _ _ _ _ _ _ _ _ _ _ _ _ ⟨_, _, _, _, rfl, rfl, rfl, g8, hq8, hM, hlM, lb, hHeld.out⟩
          refine AllHB.cons (by kernel_rfl) (o := ⟨some 7, _, _, _, _, _⟩) rfl (fun K hK => ?_) ?_
          · go_simp
            have lb := hHeld.out.size
            refine name_k ?_
            intro Vp hVp
            first | obtain ⟨gp, hbp⟩ := pair_new hVp | obtain ⟨gp, hbp⟩ := pair_new (W := w6.drew) hVp
            clear hVp
            refine hK.out _ _ (Lib.hid (below_then hHeld.out hbp)) (fun hHeld => ?_)
            clear hK K
            try simp only [Act.put, List.setIfInBounds_toArray, List.set_cons_zero, List.set_cons_succ]
            refine wpHB_ready (rs := [7]) (by kernel_rfl) (by simp) ?_
            refine AllHB.cons (by kernel_rfl) (o := ⟨some 36, _, _, _, _, _⟩) rfl (fun K hK => ?_) AllHB.nil
            go_simp
            (go_at_call 13; (with_reducible refine (HM6.out pma pmc _ _ _ (HCO.out.then_ hHeld.out) (hqb.then_ (below_then hbd hbp)) (hqd.then_ hbp)).mono ?_); rintro e wm ⟨⟨AM, kM, M, rfl, hM, hqM, hlM⟩, hbm⟩)
            refine hK.out _ _ (Lib.hid (below_then hHeld.out hbm)) (fun hHeld => ?_)
            clear hK K
            try simp only [Act.put, List.setIfInBounds_toArray, List.set_cons_zero, List.set_cons_succ]
            refine wpHB_tk hdir hsel hpan (i := 8) (oi := ⟨some 28, _, _, _, _, _⟩) rfl (by kernel_rfl) (Or.inl ⟨by rfl, fun _ _ => by rfl⟩) hHeld ?_
            refine wpHB_tk hdir hsel hpan (i := 9) (oi := ⟨some 37, _, _, _, _, _⟩) rfl (by kernel_rfl) (Or.inl ⟨by rfl, fun _ _ => by rfl⟩) hHeld ?_
            refine wpHB_tk hdir hsel hpan (i := 10) (oi := ⟨some 38, _, _, _, _, _⟩) rfl (by kernel_rfl) (Or.inl ⟨by rfl, fun _ _ => by rfl⟩) hHeld ?_
            refine wpHB_tk hdir hsel hpan (i := 11) (oi := ⟨some 39, _, _, _, _, _⟩) rfl (by kernel_rfl) (Or.inl ⟨by rfl, fun _ _ => by rfl⟩) hHeld ?_
            refine wpHB_tk hdir hsel hpan (i := 13) (oi := ⟨some 6, _, _, _, _, _⟩) rfl (by kernel_rfl) (Or.inl ⟨by rfl, fun _ _ => by rfl⟩) hHeld ?_
            try simp only [Act.put, List.setIfInBounds_toArray, List.set_cons_zero, List.set_cons_succ]
            refine wpHB_ready (rs := [14]) (by kernel_rfl) (by simp) ?_
            refine AllHB.cons (by kernel_rfl) (o := ⟨none, _, _, _, _, _⟩) rfl (fun K hK => ?_) AllHB.nil
            rw [if_pos (by rfl)]
            refine wp_store_all 36 _ _ rfl _ 36 [] (pairA 0 0).toList [] (pairA 0 0).toList rfl rfl (gp.then_ hbm) rfl (by kernel_rfl) (by simp [Value.oneCell']) ?_
            intro w8 g8 U8
            have hq8 := (hqM.then_ (Below.refl _ _)).same U8 (gp.then_ hbm) g8
            refine hK.out _ _ (Lib.hid (hHeld.out.trans (U8.b _ lb))) (fun hHeld => ?_)
            clear hK K
            try simp only [Act.put]
            refine wpHB_tail (by kernel_rfl) (by kernel_rfl) ?_
            clear hdir hsel hpan
            simp only [opsAt, List.getElem?_toArray, List.getElem?_cons_succ, List.getElem?_cons_zero, Option.toList_some, List.cons_append, List.nil_append]
            go_wp2
            exact hdone.out _ _ _ _ _ _ _ _ _ _ _ _ _ _ _ _ ⟨_, _, _, _, rfl, rfl, rfl, g8, hq8, hM, hlM, lb, hHeld.out⟩
          exact AllHB.nil
        refine AllHB.cons (by kernel_rfl) (o := ⟨some 7, _, _, _, _, _⟩) rfl (fun K hK => ?_) ?_
        · go_simp
          have lb := hHeld.out.size
          refine name_k ?_
          intro Vp hVp
          first | obtain ⟨gp, hbp⟩ := pair_new hVp | obtain ⟨gp, hbp⟩ := pair_new (W := w6.drew) hVp
          clear hVp
          refine hK.out _ _ (Lib.hid (below_then hHeld.out hbp)) (fun hHeld => ?_)
          clear hK K
          try simp only [Act.put, List.setIfInBounds_toArray, List.set_cons_zero, List.set_cons_succ]
          refine wpHB_ready (rs := [6]) (by kernel_rfl) (by simp) ?_
          refine AllHB.cons (by kernel_rfl) (o := ⟨some 35, _, _, _, _, _⟩) rfl (fun K hK => ?_) AllHB.nil
          go_simp
          refine name_k ?_
          intro Vd hVd
          obtain ⟨hqd, hbd⟩ := pats_new ⟨Pat.span 1 5, pmc⟩ hVd (hpc.then_ (below_then hbb hbp))
          clear hVd
          first | replace hqd : Pats Vd (some ⟨w6.heap.size, 0, none⟩) _ := hqd | skip
          refine hK.out _ _ (Lib.hid (below_then hHeld.out hbd)) (fun hHeld => ?_)
          clear hK K
          try simp only [Act.put, List.setIfInBounds_toArray, List.set_cons_zero, List.set_cons_succ]
          refine wpHB_ready (rs := [7]) (by kernel_rfl) (by simp) ?_
          refine AllHB.cons (by kernel_rfl) (o := ⟨some 36, _, _, _, _, _⟩) rfl (fun K hK => ?_) AllHB.nil
          go_simp
          (go_at_call 13; (with_reducible refine (HM6.out pma pmc _ _ _ (HCO.out.then_ hHeld.out) (hqb.then_ (below_then hbp hbd)) (hqd.then_ (Below.refl _ _))).mono ?_); rintro e wm ⟨⟨AM, kM, M, rfl, hM, hqM, hlM⟩, hbm⟩)
          refine hK.out _ _ (Lib.hid (below_then hHeld.out hbm)) (fun hHeld => ?_)
          clear hK K
          try simp only [Act.put, List.setIfInBounds_toArray, List.set_cons_zero, List.set_cons_succ]
          refine wpHB_tk hdir hsel hpan (i := 8) (oi := ⟨some 28, _, _, _, _, _⟩) rfl (by kernel_rfl) (Or.inl ⟨by rfl, fun _ _ => by rfl⟩) hHeld ?_
          refine wpHB_tk hdir hsel hpan (i := 9) (oi := ⟨some 37, _, _, _, _, _⟩) rfl (by kernel_rfl) (Or.inl ⟨by rfl, fun _ _ => by rfl⟩) hHeld ?_
          refine wpHB_tk hdir hsel hpan (i := 10) (oi := ⟨some 38, _, _, _, _, _⟩) rfl (by kernel_rfl) (Or.inl ⟨by rfl, fun _ _ => by rfl⟩) hHeld ?_
          refine wpHB_tk hdir hsel hpan (i := 11) (oi := ⟨some 39, _, _, _, _, _⟩) rfl (by kernel_rfl) (Or.inl ⟨by rfl, fun _ _ => by rfl⟩) hHeld ?_
          refine wpHB_tk hdir hsel hpan (i := 13) (oi := ⟨some 6, _, _, _, _, _⟩) rfl (by kernel_rfl) (Or.inl ⟨by rfl, fun _ _ => by rfl⟩) hHeld ?_
          try simp only [Act.put, List.setIfInBounds_toArray, List.set_cons_zero, List.set_cons_succ]
          refine wpHB_ready (rs := [14]) (by kernel_rfl) (by simp) ?_
          refine AllHB.cons (by kernel_rfl) (o := ⟨none, _, _, _, _, _⟩) rfl (fun K hK => ?_) AllHB.nil
          rw [if_pos (by rfl)]
          refine wp_store_all 36 _ _ rfl _ 36 [] (pairA 0 0).toList [] (pairA 0 0).toList rfl rfl (gp.then_ (below_then hbd hbm)) rfl (by kernel_rfl) (by simp [Value.oneCell']) ?_
          intro w8 g8 U8
          have hq8 := (hqM.then_ (Below.refl _ _)).same U8 (gp.then_ (below_then hbd hbm)) g8
          refine hK.out _ _ (Lib.hid (hHeld.out.trans (U8.b _ lb))) (fun hHeld => ?_)
          clear hK K
          try simp only [Act.put]
          refine wpHB_tail (by kernel_rfl) (by kernel_rfl) ?_
          clear hdir hsel hpan
          simp only [opsAt, List.getElem?_toArray, List.getElem?_cons_succ, List.getElem?_cons_zero, Option.toList_some, List.cons_append, List.nil_append]
          go_wp2
          exact hdone.out _ _ _ _ _ _ _ _ _ _ _ _ _ _ _ _ ⟨_, _, _, _, rfl, rfl, rfl, g8, hq8, hM, hlM, lb, hHeld.out⟩
        exact AllHB.nil
      refine AllHB.cons (by kernel_rfl) (o := ⟨some 35, _, _, _, _, _⟩) rfl (fun K hK => ?_) ?_
      · go_simp
        refine name_k ?_
        intro Vd hVd
        obtain ⟨hqd, hbd⟩ := pats_new ⟨Pat.span 1 5, pmc⟩ hVd (hpc.then_ (Below.refl _ _))
        clear hVd
        first | replace hqd : Pats Vd (some ⟨w6.heap.size, 0, none⟩) _ := hqd | skip
        refine hK.out _ _ (Lib.hid (below_then hHeld.out hbd)) (fun hHeld => ?_)
        clear hK K
        try simp only [Act.put, List.setIfInBounds_toArray, List.set_cons_zero, List.set_cons_succ]
        refine wpHB_ready (rs := [3, 12]) (by kernel_rfl) (by simp) ?_
        refine AllHB.cons (by kernel_rfl) (o := ⟨some 32, _, _, _, _, _⟩) rfl (fun K hK => ?_) ?_
        · go_simp
          refine name_k ?_
          intro Vb hVb
          obtain ⟨hqb, hbb⟩ := pats_new ⟨Pat.waive 0, pma⟩ hVb (hpa.then_ (below_then hbc hbd))
          clear hVb
          first | replace hqb : Pats Vb (some ⟨w6.heap.size, 0, none⟩) _ := hqb | skip
          refine hK.out _ _ (Lib.hid (below_then hHeld.out hbb)) (fun hHeld => ?_)
          clear hK K
          try simp only [Act.put, List.setIfInBounds_toArray, List.set_cons_zero, List.set_cons_succ]
          refine wpHB_ready (rs := [7, 12]) (by kernel_rfl) (by simp) ?_
          refine AllHB.cons (by kernel_rfl) (o := ⟨some 36, _, _, _, _, _⟩) rfl (fun K hK => ?_) ?_
          · go_simp
            (go_at_call 13; (with_reducible refine (HM6.out pma pmc _ _ _ (HCO.out.then_ hHeld.out) (hqb.then_ (Below.refl _ _)) (hqd.then_ hbb)).mono ?_); rintro e wm ⟨⟨AM, kM, M, rfl, hM, hqM, hlM⟩, hbm⟩)
            refine hK.out _ _ (Lib.hid (below_then hHeld.out hbm)) (fun hHeld => ?_)
            clear hK K
            try simp only [Act.put, List.setIfInBounds_toArray, List.set_cons_zero, List.set_cons_succ]
            refine wpHB_tk hdir hsel hpan (i := 8) (oi := ⟨some 28, _, _, _, _, _⟩) rfl (by kernel_rfl) (Or.inl ⟨by rfl, fun _ _ => by rfl⟩) hHeld ?_
            refine wpHB_tk hdir hsel hpan (i := 9) (oi := ⟨some 37, _, _, _, _, _⟩) rfl (by kernel_rfl) (Or.inl ⟨by rfl, fun _ _ => by rfl⟩) hHeld ?_
            refine wpHB_tk hdir hsel hpan (i := 10) (oi := ⟨some 38, _, _, _, _, _⟩) rfl (by kernel_rfl) (Or.inl ⟨by rfl, fun _ _ => by rfl⟩) hHeld ?_
            refine wpHB_tk hdir hsel hpan (i := 11) (oi := ⟨some 39, _, _, _, _, _⟩) rfl (by kernel_rfl) (Or.inl ⟨by rfl, fun _ _ => by rfl⟩) hHeld ?_
            try simp only [Act.put, List.setIfInBounds_toArray, List.set_cons_zero, List.set_cons_succ]
            refine wpHB_ready (rs := [12]) (by kernel_rfl) (by simp) ?_
            refine AllHB.cons (by kernel_rfl) (o := ⟨some 7, _, _, _, _, _⟩) rfl (fun K hK => ?_) AllHB.nil
            go_simp
            have lb := hHeld.out.size
            refine name_k ?_
            intro Vp hVp
            first | obtain ⟨gp, hbp⟩ := pair_new hVp | obtain ⟨gp, hbp⟩ := pair_new (W := w6.drew) hVp
            clear hVp
            refine hK.out _ _ (Lib.hid (below_then hHeld.out hbp)) (fun hHeld => ?_)
            clear hK K
            try simp only [Act.put, List.setIfInBounds_toArray, List.set_cons_zero, List.set_cons_succ]
            refine wpHB_tk hdir hsel hpan (i := 13) (oi := ⟨some 6, _, _, _, _, _⟩) rfl (by kernel_rfl) (Or.inl ⟨by rfl, fun _ _ => by rfl⟩) hHeld ?_
            try simp only [Act.put, List.setIfInBounds_toArray, List.set_cons_zero, List.set_cons_succ]
            refine wpHB_ready (rs := [14]) (by kernel_rfl) (by simp) ?_
            refine AllHB.cons (by kernel_rfl) (o := ⟨none, _, _, _, _, _⟩) rfl (fun K hK => ?_) AllHB.nil
            rw [if_pos (by rfl)]
            refine wp_store_all 36 _ _ rfl _ 36 [] (pairA 0 0).toList [] (pairA 0 0).toList rfl rfl (gp.then_ (Below.refl _ _)) rfl (by kernel_rfl) (by simp [Value.oneCell']) ?_
            intro w8 g8 U8
            have hq8 := (hqM.then_ hbp).same U8 (gp.then_ (Below.refl _ _)) g8
            refine hK.out _ _ (Lib.hid (hHeld.out.trans (U8.b _ lb))) (fun hHeld => ?_)
            clear hK K
            try simp only [Act.put]
            refine wpHB_tail (by kernel_rfl) (by kernel_rfl) ?_
            clear hdir hsel hpan
            simp only [opsAt, List.getElem?_toArray, List.getElem?_cons_succ, List.getElem?_cons_zero, Option.toList_some, List.cons_append, List.nil_append]
            go_wp2
            exact hdone.out _ _ _ _ _ _ _ _ _ _ _ _ _ _ _ _ ⟨_, _, _, _, rfl, rfl, rfl, g8, hq8, hM, hlM, lb, hHeld.out⟩
          refine AllHB.cons (by kernel_rfl) (o := ⟨some 7, _, _, _, _, _⟩) rfl (fun K hK => ?_) ?_
          · go_simp
            have lb := hHeld.out.size
            refine name_k ?_
            intro Vp hVp
            first | obtain ⟨gp, hbp⟩ := pair_new hVp | obtain ⟨gp, hbp⟩ := pair_new (W := w6.drew) hVp
            clear hVp
            refine hK.out _ _ (Lib.hid (below_then hHeld.out hbp)) (fun hHeld => ?_)
            clear hK K
            try simp only [Act.put, List.setIfInBounds_toArray, List.set_cons_zero, List.set_cons_succ]
            refine wpHB_ready (rs := [7]) (by kernel_rfl) (by simp) ?_
            refine AllHB.cons (by kernel_rfl) (o := ⟨some 36, _, _, _, _, _⟩) rfl (fun K hK => ?_) AllHB.nil
            go_simp
            (go_at_call 13; (with_reducible refine (HM6.out pma pmc _ _ _ (HCO.out.then_ hHeld.out) (hqb.then_ hbp) (hqd.then_ (below_then hbb hbp))).mono ?_); rintro e wm ⟨⟨AM, kM, M, rfl, hM, hqM, hlM⟩, hbm⟩)
            refine hK.out _ _ (Lib.hid (below_then hHeld.out hbm)) (fun hHeld => ?_)
            clear hK K
            try simp only [Act.put, List.setIfInBounds_toArray, List.set_cons_zero, List.set_cons_succ]
            refine wpHB_tk hdir hsel hpan (i := 8) (oi := ⟨some 28, _, _, _, _, _⟩) rfl (by kernel_rfl) (Or.inl ⟨by rfl, fun _ _ => by rfl⟩) hHeld ?_
            refine wpHB_tk hdir hsel hpan (i := 9) (oi := ⟨some 37, _, _, _, _, _⟩) rfl (by kernel_rfl) (Or.inl ⟨by rfl, fun _ _ => by rfl⟩) hHeld ?_
            refine wpHB_tk hdir hsel hpan (i := 10) (oi := ⟨some 38, _, _, _, _, _⟩) rfl (by kernel_rfl) (Or.inl ⟨by rfl, fun _ _ => by rfl⟩) hHeld ?_
            refine wpHB_tk hdir hsel hpan (i := 11) (oi := ⟨some 39, _, _, _, _, _⟩) rfl (by kernel_rfl) (Or.inl ⟨by rfl, fun _ _ => by rfl⟩) hHeld ?_
            refine wpHB_tk hdir hsel hpan (i := 13) (oi := ⟨some 6, _, _, _, _, _⟩) rfl (by kernel_rfl) (Or.inl ⟨by rfl, fun _ _ => by rfl⟩) hHeld ?_
            try simp only [Act.put, List.setIfInBounds_toArray, List.set_cons_zero, List.set_cons_succ]
            refine wpHB_ready (rs := [14]) (by kernel_rfl) (by simp) ?_
            refine AllHB.cons (by kernel_rfl) (o := ⟨none, _, _, _, _, _⟩) rfl (fun K hK => ?_) AllHB.nil
            rw [if_pos (by rfl)]
            refine wp_store_all 36 _ _ rfl _ 36 [] (pairA 0 0).toList [] (pairA 0 0).toList rfl rfl (gp.then_ hbm) rfl (by kernel_rfl) (by simp [Value.oneCell']) ?_
            intro w8 g8 U8
            have hq8 := (hqM.then_ (Below.refl _ _)).same U8 (gp.then_ hbm) g8
            refine hK.out _ _ (Lib.hid (hHeld.out.trans (U8.b _ lb))) (fun hHeld => ?_)
            clear hK K
            try simp only [Act.put]
            refine wpHB_tail (by kernel_rfl) (by kernel_rfl) ?_
            clear hdir hsel hpan
            simp only [opsAt, List.getElem?_toArray, List.getElem?_cons_succ, List.getElem?_cons_zero, Option.toList_some, List.cons_append, List.nil_append]
            go_wp2
            exact hdone.out _ _ _ _ _ _ _ _ _ _ _ _ _ _ _ _ ⟨_, _, _, _, rfl, rfl, rfl, g8, hq8, hM, hlM, lb, hHeld.out⟩
          exact AllHB.nil
        refine AllHB.cons (by kernel_rfl) (o := ⟨some 7, _, _, _, _, _⟩) rfl (fun K hK => ?_) ?_
        · go_simp
          have lb := hHeld.out.size
          refine name_k ?_
          intro Vp hVp
          first | obtain ⟨gp, hbp⟩ := pair_new hVp | obtain ⟨gp, hbp⟩ := pair_new (W := w6.drew) hVp
          clear hVp
          refine hK.out _ _ (Lib.hid (below_then hHeld.out hbp)) (fun hHeld => ?_)
          clear hK K
          try simp only [Act.put, List.setIfInBounds_toArray, List.set_cons_zero, List.set_cons_succ]
          refine wpHB_ready (rs := [3]) (by kernel_rfl) (by simp) ?_
          refine AllHB.cons (by kernel_rfl) (o := ⟨some 32, _, _, _, _, _⟩) rfl (fun K hK => ?_) AllHB.nil
          go_simp
          refine name_k ?_
          intro Vb hVb
          obtain ⟨hqb, hbb⟩ := pats_new ⟨Pat.waive 0, pma⟩ hVb (hpa.then_ (below_then hbc (below_then hbd hbp)))
          clear hVb
          first | replace hqb : Pats Vb (some ⟨w6.heap.size, 0, none⟩) _ := hqb | skip
          refine hK.out _ _ (Lib.hid (below_then hHeld.out hbb)) (fun hHeld => ?_)
          clear hK K
          try simp only [Act.put, List.setIfInBounds_toArray, List.set_cons_zero, List.set_cons_succ]
          refine wpHB_ready (rs := [7]) (by kernel_rfl) (by simp) ?_
          refine AllHB.cons (by kernel_rfl) (o := ⟨some 36, _, _, _, _, _⟩) rfl (fun K hK => ?_) AllHB.nil
          go_simp
          (go_at_call 13; (with_reducible refine (HM6.out pma pmc _ _ _ (HCO.out.then_ hHeld.out) (hqb.then_ (Below.refl _ _)) (hqd.then_ (below_then hbp hbb))).mono ?_); rintro e wm ⟨⟨AM, kM, M, rfl, hM, hqM, hlM⟩, hbm⟩)
          refine hK.out _ _ (Lib.hid (below_then hHeld.out hbm)) (fun hHeld => ?_)
          clear hK K
          try simp only [Act.put, List.setIfInBounds_toArray, List.set_cons_zero, List.set_cons_succ]
          refine wpHB_tk hdir hsel hpan (i := 8) (oi := ⟨some 28, _, _, _, _, _⟩) rfl (by kernel_rfl) (Or.inl ⟨by rfl, fun _ _ => by rfl⟩) hHeld ?_
          refine wpHB_tk hdir hsel hpan (i := 9) (oi := ⟨some 37, _, _, _, _, _⟩) rfl (by kernel_rfl) (Or.inl ⟨by rfl, fun _ _ => by rfl⟩) hHeld ?_
          refine wpHB_tk hdir hsel hpan (i := 10) (oi := ⟨some 38, _, _, _, _, _⟩) rfl (by kernel_rfl) (Or.inl ⟨by rfl, fun _ _ => by rfl⟩) hHeld ?_
          refine wpHB_tk hdir hsel hpan (i := 11) (oi := ⟨some 39, _, _, _, _, _⟩) rfl (by kernel_rfl) (Or.inl ⟨by rfl, fun _ _ => by rfl⟩) hHeld ?_
          refine wpHB_tk hdir hsel hpan (i := 13) (oi := ⟨some 6, _, _, _, _, _⟩) rfl (by kernel_rfl) (Or.inl ⟨by rfl, fun _ _ => by rfl⟩) hHeld ?_
          try simp only [Act.put, List.setIfInBounds_toArray, List.set_cons_zero, List.set_cons_succ]
          refine wpHB_ready (rs := [14]) (by kernel_rfl) (by simp) ?_
          refine AllHB.cons (by kernel_rfl) (o := ⟨none, _, _, _, _, _⟩) rfl (fun K hK => ?_) AllHB.nil
          rw [if_pos (by rfl)]
          refine wp_store_all 36 _ _ rfl _ 36 [] (pairA 0 0).toList [] (pairA 0 0).toList rfl rfl (gp.then_ (below_then hbb hbm)) rfl (by kernel_rfl) (by simp [Value.oneCell']) ?_
          intro w8 g8 U8
          have hq8 := (hqM.then_ (Below.refl _ _)).same U8 (gp.then_ (below_then hbb hbm)) g8
          refine hK.out _ _ (Lib.hid (hHeld.out.trans (U8.b _ lb))) (fun hHeld => ?_)
          clear hK K
          try simp only [Act.put]
          refine wpHB_tail (by kernel_rfl) (by kernel_rfl) ?_
          clear hdir hsel hpan
          simp only [opsAt, List.getElem?_toArray, List.getElem?_cons_succ, List.getElem?_cons_zero, Option.toList_some, List.cons_append, List.nil_append]
          go_wp2
          exact hdone.out _ _ _ _ _ _ _ _ _ _ _ _ _ _ _ _ ⟨_, _, _, _, rfl, rfl, rfl, g8, hq8, hM, hlM, lb, hHeld.out⟩
        exact AllHB.nil
      refine AllHB.cons (by kernel_rfl) (o := ⟨some 7, _, _, _, _, _⟩) rfl (fun K hK => ?_) ?_
      · go_simp
        have lb := hHeld.out.size
        refine name_k ?_
        intro Vp hVp
        first | obtain ⟨gp, hbp⟩ := pair_new hVp | obtain ⟨gp, hbp⟩ := pair_new (W := w6.drew) hVp
        clear hVp
        refine hK.out _ _ (Lib.hid (below_then hHeld.out hbp)) (fun hHeld => ?_)
        clear hK K
        try simp only [Act.put, List.setIfInBounds_toArray, List.set_cons_zero, List.set_cons_succ]
        refine wpHB_ready (rs := [3, 6]) (by kernel_rfl) (by simp) ?_
        refine AllHB.cons (by kernel_rfl) (o := ⟨some 32, _, _, _, _, _⟩) rfl (fun K hK => ?_) ?_
        · go_simp
          refine name_k ?_
          intro Vb hVb
          obtain ⟨hqb, hbb⟩ := pats_new ⟨Pat.waive 0, pma⟩ hVb (hpa.then_ (below_then hbc hbp))
          clear hVb
          first | replace hqb : Pats Vb (some ⟨w6.heap.size, 0, none⟩) _ := hqb | skip
          refine hK.out _ _ (Lib.hid (below_then hHeld.out hbb)) (fun hHeld => ?_)
          clear hK K
          try simp only [Act.put, List.setIfInBounds_toArray, List.set_cons_zero, List.set_cons_succ]
          refine wpHB_ready (rs := [6]) (by kernel_rfl) (by simp) ?_
          refine AllHB.cons (by kernel_rfl) (o := ⟨some 35, _, _, _, _, _⟩) rfl (fun K hK => ?_) AllHB.nil
          go_simp
          refine name_k ?_
          intro Vd hVd
          obtain ⟨hqd, hbd⟩ := pats_new ⟨Pat.span 1 5, pmc⟩ hVd (hpc.then_ (below_then hbp hbb))
          clear hVd
          first | replace hqd : Pats Vd (some ⟨w6.heap.size, 0, none⟩) _ := hqd | skip
          refine hK.out _ _ (Lib.hid (below_then hHeld.out hbd)) (fun hHeld => ?_)
          clear hK K
          try simp only [Act.put, List.setIfInBounds_toArray, List.set_cons_zero, List.set_cons_succ]
          refine wpHB_ready (rs := [7]) (by kernel_rfl) (by simp) ?_
          refine AllHB.cons (by kernel_rfl) (o := ⟨some 36, _, _, _, _, _⟩) rfl (fun K hK => ?_) AllHB.nil
          go_simp
          (go_at_call 13; (with_reducible refine (HM6.out pma pmc _ _ _ (HCO.out.then_ hHeld.out) (hqb.then_ hbd) (hqd.then_ (Below.refl _ _))).mono ?_); rintro e wm ⟨⟨AM, kM, M, rfl, hM, hqM, hlM⟩, hbm⟩)
          refine hK.out _ _ (Lib.hid (below_then hHeld.out hbm)) (fun hHeld => ?_)
          clear hK K
          try simp only [Act.put, List.setIfInBounds_toArray, List.set_cons_zero, List.set_cons_succ]
          refine wpHB_tk hdir hsel hpan (i := 8) (oi := ⟨some 28, _, _, _, _, _⟩) rfl (by kernel_rfl) (Or.inl ⟨by rfl, fun _ _ => by rfl⟩) hHeld ?_
          refine wpHB_tk hdir hsel hpan (i := 9) (oi := ⟨some 37, _, _, _, _, _⟩) rfl (by kernel_rfl) (Or.inl ⟨by rfl, fun _ _ => by rfl⟩) hHeld ?_
          refine wpHB_tk hdir hsel hpan (i := 10) (oi := ⟨some 38, _, _, _, _, _⟩) rfl (by kernel_rfl) (Or.inl ⟨by rfl, fun _ _ => by rfl⟩) hHeld ?_
          refine wpHB_tk hdir hsel hpan (i := 11) (oi := ⟨some 39, _, _, _, _, _⟩) rfl (by kernel_rfl) (Or.inl ⟨by rfl, fun _ _ => by rfl⟩) hHeld ?_
          refine wpHB_tk hdir hsel hpan (i := 13) (oi := ⟨some 6, _, _, _, _, _⟩) rfl (by kernel_rfl) (Or.inl ⟨by rfl, fun _ _ => by rfl⟩) hHeld ?_
          try simp only [Act.put, List.setIfInBounds_toArray, List.set_cons_zero, List.set_cons_succ]
          refine wpHB_ready (rs := [14]) (by kernel_rfl) (by simp) ?_
          refine AllHB.cons (by kernel_rfl) (o := ⟨none, _, _, _, _, _⟩) rfl (fun K hK => ?_) AllHB.nil
          rw [if_pos (by rfl)]
          refine wp_store_all 36 _ _ rfl _ 36 [] (pairA 0 0).toList [] (pairA 0 0).toList rfl rfl (gp.then_ (below_then hbb (below_then hbd hbm))) rfl (by kernel_rfl) (by simp [Value.oneCell']) ?_
          intro w8 g8 U8
          have hq8 := (hqM.then_ (Below.refl _ _)).same U8 (gp.then_ (below_then hbb (below_then hbd hbm))) g8
          refine hK.out _ _ (Lib.hid (hHeld.out.trans (U8.b _ lb))) (fun hHeld => ?_)
          clear hK K
          try simp only [Act.put]
          refine wpHB_tail (by kernel_rfl) (by kernel_rfl) ?_
          clear hdir hsel hpan
          simp only [opsAt, List.getElem?_toArray, List.getElem?_cons_succ, List.getElem?_cons_zero, Option.toList_some, List.cons_append, List.nil_append]
          go_wp2
          exact hdone.out _ _ _ _ _ _ _ _ _ _ _ _ _ _ _ _ ⟨_, _, _, _, rfl, rfl, rfl, g8, hq8, hM, hlM, lb, hHeld.out⟩
        refine AllHB.cons (by kernel_rfl) (o := ⟨some 35, _, _, _, _, _⟩) rfl (fun K hK => ?_) ?_
        · go_simp
          refine name_k ?_
          intro Vd hVd
          obtain ⟨hqd, hbd⟩ := pats_new ⟨Pat.span 1 5, pmc⟩ hVd (hpc.then_ hbp)
          clear hVd
          first | replace hqd : Pats Vd (some ⟨w6.heap.size, 0, none⟩) _ := hqd | skip
          refine hK.out _ _ (Lib.hid (below_then hHeld.out hbd)) (fun hHeld => ?_)
          clear hK K
          try simp only [Act.put, List.setIfInBounds_toArray, List.set_cons_zero, List.set_cons_succ]
          refine wpHB_ready (rs := [3]) (by kernel_rfl) (by simp) ?_
          refine AllHB.cons (by kernel_rfl) (o := ⟨some 32, _, _, _, _, _⟩) rfl (fun K hK => ?_) AllHB.nil
          go_simp
          refine name_k ?_
          intro Vb hVb
          obtain ⟨hqb, hbb⟩ := pats_new ⟨Pat.waive 0, pma⟩ hVb (hpa.then_ (below_then hbc (below_then hbp hbd)))
          clear hVb
          first | replace hqb : Pats Vb (some ⟨w6.heap.size, 0, none⟩) _ := hqb | skip
          refine hK.out _ _ (Lib.hid (below_then hHeld.out hbb)) (fun hHeld => ?_)
          clear hK K
          try simp only [Act.put, List.setIfInBounds_toArray, List.set_cons_zero, List.set_cons_succ]
          refine wpHB_ready (rs := [7]) (by kernel_rfl) (by simp) ?_
          refine AllHB.cons (by kernel_rfl) (o := ⟨some 36, _, _, _, _, _⟩) rfl (fun K hK => ?_) AllHB.nil
          go_simp
          (go_at_call 13; (with_reducible refine (HM6.out pma pmc _ _ _ (HCO.out.then_ hHeld.out) (hqb.then_ (Below.refl _ _)) (hqd.then_ hbb)).mono ?_); rintro e wm ⟨⟨AM, kM, M, rfl, hM, hqM, hlM⟩, hbm⟩)
          refine hK.out _ _ (Lib.hid (below_then hHeld.out hbm)) (fun hHeld => ?_)
          clear hK K
          try simp only [Act.put, List.setIfInBounds_toArray, List.set_cons_zero, List.set_cons_succ]
          refine wpHB_tk hdir hsel hpan (i := 8) (oi := ⟨some 28, _, _, _, _, _⟩) rfl (by kernel_rfl) (Or.inl ⟨by rfl, fun _ _ => by rfl⟩) hHeld ?_
          refine wpHB_tk hdir hsel hpan (i := 9) (oi := ⟨some 37, _, _, _, _, _⟩) rfl (by kernel_rfl) (Or.inl ⟨by rfl, fun _ _ => by rfl⟩) hHeld ?_
          refine wpHB_tk hdir hsel hpan (i := 10) (oi := ⟨some 38, _, _, _, _, _⟩) rfl (by kernel_rfl) (Or.inl ⟨by rfl, fun _ _ => by rfl⟩) hHeld ?_
          refine wpHB_tk hdir hsel hpan (i := 11) (oi := ⟨some 39, _, _, _, _, _⟩) rfl (by kernel_rfl) (Or.inl ⟨by rfl, fun _ _ => by rfl⟩) hHeld ?_
          refine wpHB_tk hdir hsel hpan (i := 13) (oi := ⟨some 6, _, _, _, _, _⟩) rfl (by kernel_rfl) (Or.inl ⟨by rfl, fun _ _ => by rfl⟩) hHeld ?_
          try simp only [Act.put, List.setIfInBounds_toArray, List.set_cons_zero, List.set_cons_succ]
          refine wpHB_ready (rs := [14]) (by kernel_rfl) (by simp) ?_
          refine AllHB.cons (by kernel_rfl) (o := ⟨none, _, _, _, _, _⟩) rfl (fun K hK => ?_) AllHB.nil
          rw [if_pos (by rfl)]
          refine wp_store_all 36 _ _ rfl _ 36 [] (pairA 0 0).toList [] (pairA 0 0).toList rfl rfl (gp.then_ (below_then hbd (below_then hbb hbm))) rfl (by kernel_rfl) (by simp [Value.oneCell']) ?_
          intro w8 g8 U8
          have hq8 := (hqM.then_ (Below.refl _ _)).same U8 (gp.then_ (below_then hbd (below_then hbb hbm))) g8
          refine hK.out _ _ (Lib.hid (hHeld.out.trans (U8.b _ lb))) (fun hHeld => ?_)
          clear hK K
          try simp only [Act.put]
          refine wpHB_tail (by kernel_rfl) (by kernel_rfl) ?_
          clear hdir hsel hpan
          simp only [opsAt, List.getElem?_toArray, List.getElem?_cons_succ, List.getElem?_cons_zero, Option.toList_some, List.cons_append, List.nil_append]
          go_wp2
          exact hdone.out _ _ _ _ _ _ _ _ _ _ _ _ _ _ _ _ ⟨_, _, _, _, rfl, rfl, rfl, g8, hq8, hM, hlM, lb, hHeld.out⟩
        exact AllHB.nil
      exact AllHB.nil
    refine AllHB.cons (by kernel_rfl) (o := ⟨some 7, _, _, _, _, _⟩) rfl (fun K hK => ?_) ?_
    · go_simp
      have lb := hHeld.out.size
      refine name_k ?_
      intro Vp hVp
      first | obtain ⟨gp, hbp⟩ := pair_new hVp | obtain ⟨gp, hbp⟩ := pair_new (W := w6.drew) hVp
      clear hVp
      refine hK.out _ _ (Lib.hid (below_then hHeld.out hbp)) (fun hHeld => ?_)
      clear hK K
      try simp only [Act.put, List.setIfInBounds_toArray, List.set_cons_zero, List.set_cons_succ]
      refine wpHB_ready (rs := [3, 5]) (by kernel_rfl) (by simp) ?_
      refine AllHB.cons (by kernel_rfl) (o := ⟨some 32, _, _, _, _, _⟩) rfl (fun K hK => ?_) ?_
      · go_simp
        refine name_k ?_
        intro Vb hVb
        obtain ⟨hqb, hbb⟩ := pats_new ⟨Pat.waive 0, pma⟩ hVb (hpa.then_ hbp)
        clear hVb
        first | replace hqb : Pats Vb (some ⟨w6.heap.size, 0, none⟩) _ := hqb | skip
        refine hK.out _ _ (Lib.hid (below_then hHeld.out hbb)) (fun hHeld => ?_)
        clear hK K
        try simp only [Act.put, List.setIfInBounds_toArray, List.set_cons_zero, List.set_cons_succ]
        refine wpHB_ready (rs := [5]) (by kernel_rfl) (by simp) ?_
        refine AllHB.cons (by kernel_rfl) (o := ⟨some 34, _, _, _, _, _⟩) rfl (fun K hK => ?_) AllHB.nil
        go_simp
        (go_at_call 23; (with_reducible refine (HS.out _ _ _).mono ?_); rintro e wd ⟨⟨pmc, rfl, hpc, _⟩, hbc⟩)
        refine hK.out _ _ (Lib.hid (below_then hHeld.out hbc)) (fun hHeld => ?_)
        clear hK K
        try simp only [Act.put, List.setIfInBounds_toArray, List.set_cons_zero, List.set_cons_succ]
        refine wpHB_ready (rs := [6]) (by kernel_rfl) (by simp) ?_
        refine AllHB.cons (by kernel_rfl) (o := ⟨some 35, _, _, _, _, _⟩) rfl (fun K hK => ?_) AllHB.nil
        go_simp
        refine name_k ?_
        intro Vd hVd
        obtain ⟨hqd, hbd⟩ := pats_new ⟨Pat.span 1 5, pmc⟩ hVd (hpc.then_ (Below.refl _ _))
        clear hVd
        first | replace hqd : Pats Vd (some ⟨w6.heap.size, 0, none⟩) _ := hqd | skip
        refine hK.out _ _ (Lib.hid (below_then hHeld.out hbd)) (fun hHeld => ?_)
        clear hK K
        try simp only [Act.put, List.setIfInBounds_toArray, List.set_cons_zero, List.set_cons_succ]
        refine wpHB_ready (rs := [7]) (by kernel_rfl) (by simp) ?_
        refine AllHB.cons (by kernel_rfl) (o := ⟨some 36, _, _, _, _, _⟩) rfl (fun K hK => ?_) AllHB.nil
        go_simp
        (go_at_call 13; (with_reducible refine (HM6.out pma pmc _ _ _ (HCO.out.then_ hHeld.out) (hqb.then_ (below_then hbc hbd)) (hqd.then_ (Below.refl _ _))).mono ?_); rintro e wm ⟨⟨AM, kM, M, rfl, hM, hqM, hlM⟩, hbm⟩)
        refine hK.out _ _ (Lib.hid (below_then hHeld.out hbm)) (fun hHeld => ?_)
        clear hK K
        try simp only [Act.put, List.setIfInBounds_toArray, List.set_cons_zero, List.set_cons_succ]
        refine wpHB_tk hdir hsel hpan (i := 8) (oi := ⟨some 28, _, _, _, _, _⟩) rfl (by kernel_rfl) (Or.inl ⟨by rfl, fun _ _ => by rfl⟩) hHeld ?_
        refine wpHB_tk hdir hsel hpan (i := 9) (oi := ⟨some 37, _, _, _, _, _⟩) rfl (by kernel_rfl) (Or.inl ⟨by rfl, fun _ _ => by rfl⟩) hHeld ?_
        refine wpHB_tk hdir hsel hpan (i := 10) (oi := ⟨some 38, _, _, _, _, _⟩) rfl (by kernel_rfl) (Or.inl ⟨by rfl, fun _ _ => by rfl⟩) hHeld ?_
        refine wpHB_tk hdir hsel hpan (i := 11) (oi := ⟨some 39, _, _, _, _, _⟩) rfl (by kernel_rfl) (Or.inl ⟨by rfl, fun _ _ => by rfl⟩) hHeld ?_
        refine wpHB_tk hdir hsel hpan (i := 13) (oi := ⟨some 6, _, _, _, _, _⟩) rfl (by kernel_rfl) (Or.inl ⟨by rfl, fun _ _ => by rfl⟩) hHeld ?_
        try simp only [Act.put, List.setIfInBounds_toArray, List.set_cons_zero, List.set_cons_succ]
        refine wpHB_ready (rs := [14]) (by kernel_rfl) (by simp) ?_
        refine AllHB.cons (by kernel_rfl) (o := ⟨none, _, _, _, _, _⟩) rfl (fun K hK => ?_) AllHB.nil
        rw [if_pos (by rfl)]
        refine wp_store_all 36 _ _ rfl _ 36 [] (pairA 0 0).toList [] (pairA 0 0).toList rfl rfl (gp.then_ (below_then hbb (below_then hbc (below_then hbd hbm)))) rfl (by kernel_rfl) (by simp [Value.oneCell']) ?_
        intro w8 g8 U8
        have hq8 := (hqM.then_ (Below.refl _ _)).same U8 (gp.then_ (below_then hbb (below_then hbc (below_then hbd hbm)))) g8
        refine hK.out _ _ (Lib.hid (hHeld.out.trans (U8.b _ lb))) (fun hHeld => ?_)
        clear hK K
        try simp only [Act.put]
        refine wpHB_tail (by kernel_rfl) (by kernel_rfl) ?_
        clear hdir hsel hpan
        simp only [opsAt, List.getElem?_toArray, List.getElem?_cons_succ, List.getElem?_cons_zero, Option.toList_some, List.cons_append, List.nil_append]
        go_wp2
        exact hdone.out _ _ _ _ _ _ _ _ _ _ _ _ _ _ _ _ ⟨_, _, _, _, rfl, rfl, rfl, g8, hq8, hM, hlM, lb, hHeld.out⟩
      refine AllHB.cons (by kernel_rfl) (o := ⟨some 34, _, _, _, _, _⟩) rfl (fun K hK => ?_) ?_
      · go_simp
        (go_at_call 23; (with_reducible refine (HS.out _ _ _).mono ?_); rintro e wd ⟨⟨pmc, rfl, hpc, _⟩, hbc⟩)
        refine hK.out _ _ (Lib.hid (below_then hHeld.out hbc)) (fun hHeld => ?_)
        clear hK K
        try simp only [Act.put, List.setIfInBounds_toArray, List.set_cons_zero, List.set_cons_succ]
        refine wpHB_ready (rs := [3, 6]) (by kernel_rfl) (by simp) ?_
        refine AllHB.cons (by kernel_rfl) (o := ⟨some 32, _, _, _, _, _⟩) rfl (fun K hK => ?_) ?_
        · go_simp
          refine name_k ?_
          intro Vb hVb
          obtain ⟨hqb, hbb⟩ := pats_new ⟨Pat.waive 0, pma⟩ hVb (hpa.then_ (below_then hbp hbc))
          clear hVb
          first | replace hqb : Pats Vb (some ⟨w6.heap.size, 0, none⟩) _ := hqb | skip
          refine hK.out _ _ (Lib.hid (below_then hHeld.out hbb)) (fun hHeld => ?_)
          clear hK K
          try simp only [Act.put, List.setIfInBounds_toArray, List.set_cons_zero, List.set_cons_succ]
          refine wpHB_ready (rs := [6]) (by kernel_rfl) (by simp) ?_
          refine AllHB.cons (by kernel_rfl) (o := ⟨some 35, _, _, _, _, _⟩) rfl (fun K hK => ?_) AllHB.nil
          go_simp
          refine name_k ?_
          intro Vd hVd
          obtain ⟨hqd, hbd⟩ := pats_new ⟨Pat.span 1 5, pmc⟩ hVd (hpc.then_ hbb)
          clear hVd
          first | replace hqd : Pats Vd (some ⟨w6.heap.size, 0, none⟩) _ := hqd | skip
          refine hK.out _ _ (Lib.hid (below_then hHeld.out hbd)) (fun hHeld => ?_)
          clear hK K
          try simp only [Act.put, List.setIfInBounds_toArray, List.set_cons_zero, List.set_cons_succ]
          refine wpHB_ready (rs := [7]) (by kernel_rfl) (by simp) ?_
          refine AllHB.cons (by kernel_rfl) (o := ⟨some 36, _, _, _, _, _⟩) rfl (fun K hK => ?_) AllHB.nil
          go_simp
          (go_at_call 13; (with_reducible refine (HM6.out pma pmc _ _ _ (HCO.out.then_ hHeld.out) (hqb.then_ hbd) (hqd.then_ (Below.refl _ _))).mono ?_); rintro e wm ⟨⟨AM, kM, M, rfl, hM, hqM, hlM⟩, hbm⟩)
          refine hK.out _ _ (Lib.hid (below_then hHeld.out hbm)) (fun hHeld => ?_)
          clear hK K
          try simp only [Act.put, List.setIfInBounds_toArray, List.set_cons_zero, List.set_cons_succ]
          refine wpHB_tk hdir hsel hpan (i := 8) (oi := ⟨some 28, _, _, _, _, _⟩) rfl (by kernel_rfl) (Or.inl ⟨by rfl, fun _ _ => by rfl⟩) hHeld ?_
          refine wpHB_tk hdir hsel hpan (i := 9) (oi := ⟨some 37, _, _, _, _, _⟩) rfl (by kernel_rfl) (Or.inl ⟨by rfl, fun _ _ => by rfl⟩) hHeld ?_
          refine wpHB_tk hdir hsel hpan (i := 10) (oi := ⟨some 38, _, _, _, _, _⟩) rfl (by kernel_rfl) (Or.inl ⟨by rfl, fun _ _ => by rfl⟩) hHeld ?_
          refine wpHB_tk hdir hsel hpan (i := 11) (oi := ⟨some 39, _, _, _, _, _⟩) rfl (by kernel_rfl) (Or.inl ⟨by rfl, fun _ _ => by rfl⟩) hHeld ?_
          refine wpHB_tk hdir hsel hpan (i := 13) (oi := ⟨some 6, _, _, _, _, _⟩) rfl (by kernel_rfl) (Or.inl ⟨by rfl, fun _ _ => by rfl⟩) hHeld ?_
          try simp only [Act.put, List.setIfInBounds_toArray, List.set_cons_zero, List.set_cons_succ]
          refine wpHB_ready (rs := [14]) (by kernel_rfl) (by simp) ?_
          refine AllHB.cons (by kernel_rfl) (o := ⟨none, _, _, _, _, _⟩) rfl (fun K hK => ?_) AllHB.nil
          rw [if_pos (by rfl)]
          refine wp_store_all 36 _ _ rfl _ 36 [] (pairA 0 0).toList [] (pairA 0 0).toList rfl rfl (gp.then_ (below_then hbc (below_then hbb (below_then hbd hbm)))) rfl (by kernel_rfl) (by simp [Value.oneCell']) ?_
          intro w8 g8 U8
          have hq8 := (hqM.then_ (Below.refl _ _)).same U8 (gp.then_ (below_then hbc (below_then hbb (below_then hbd hbm)))) g8
          refine hK.out _ _ (Lib.hid (hHeld.out.trans (U8.b _ lb))) (fun hHeld => ?_)
          clear hK K
          try simp only [Act.put]
          refine wpHB_tail (by kernel_rfl) (by kernel_rfl) ?_
          clear hdir hsel hpan
          simp only [opsAt, List.getElem?_toArray, List.getElem?_cons_succ, List.getElem?_cons_zero, Option.toList_some, List.cons_append, List.nil_append]
          go_wp2
          exact hdone.out _ _ _ _ _ _ _ _ _ _ _ _ _ _ _ _ ⟨_, _, _, _, rfl, rfl, rfl, g8, hq8, hM, hlM, lb, hHeld.out⟩
        refine AllHB.cons (by kernel_rfl) (o := ⟨some 35, _, _, _, _, _⟩) rfl (fun K hK => ?_) ?_
        · go_simp
          refine name_k ?_
          intro Vd hVd
          obtain ⟨hqd, hbd⟩ := pats_new ⟨Pat.span 1 5, pmc⟩ hVd (hpc.then_ (Below.refl _ _))
          clear hVd
          first | replace hqd : Pats Vd (some ⟨w6.heap.size, 0, none⟩) _ := hqd | skip
          refine hK.out _ _ (Lib.hid (below_then hHeld.out hbd)) (fun hHeld => ?_)
          clear hK K
          try simp only [Act.put, List.setIfInBounds_toArray, List.set_cons_zero, List.set_cons_succ]
          refine wpHB_ready (rs := [3]) (by kernel_rfl) (by simp) ?_
          refine AllHB.cons (by kernel_rfl) (o := ⟨some 32, _, _, _, _, _⟩) rfl (fun K hK => ?_) AllHB.nil
          go_simp
          refine name_k ?_
          intro Vb hVb
          obtain ⟨hqb, hbb⟩ := pats_new ⟨Pat.waive 0, pma⟩ hVb (hpa.then_ (below_then hbp (below_then hbc hbd)))
          clear hVb
          first | replace hqb : Pats Vb (some ⟨w6.heap.size, 0, none⟩) _ := hqb | skip
          refine hK.out _ _ (Lib.hid (below_then hHeld.out hbb)) (fun hHeld => ?_)
          clear hK K
          try simp only [Act.put, List.setIfInBounds_toArray, List.set_cons_zero, List.set_cons_succ]
          refine wpHB_ready (rs := [7]) (by kernel_rfl) (by simp) ?_
          refine AllHB.cons (by kernel_rfl) (o := ⟨some 36, _, _, _, _, _⟩) rfl (fun K hK => ?_) AllHB.nil
          go_simp
          (go_at_call 13; (with_reducible refine (HM6.out pma pmc _ _ _ (HCO.out.then_ hHeld.out) (hqb.then_ (Below.refl _ _)) (hqd.then_ hbb)).mono ?_); rintro e wm ⟨⟨AM, kM, M, rfl, hM, hqM, hlM⟩, hbm⟩)
          refine hK.out _ _ (Lib.hid (below_then hHeld.out hbm)) (fun hHeld => ?_)
          clear hK K
          try simp only [Act.put, List.setIfInBounds_toArray, List.set_cons_zero, List.set_cons_succ]
          refine wpHB_tk hdir hsel hpan (i := 8) (oi := ⟨some 28, _, _, _, _, _⟩) rfl (by kernel_rfl) (Or.inl ⟨by rfl, fun _ _ => by rfl⟩) hHeld ?_
          refine wpHB_tk hdir hsel hpan (i := 9) (oi := ⟨some 37, _, _, _, _, _⟩) rfl (by kernel_rfl) (Or.inl ⟨by rfl, fun _ _ => by rfl⟩) hHeld ?_
          refine wpHB_tk hdir hsel hpan (i := 10) (oi := ⟨some 38, _, _, _, _, _⟩) rfl (by kernel_rfl) (Or.inl ⟨by rfl, fun _ _ => by rfl⟩) hHeld ?_
          refine wpHB_tk hdir hsel hpan (i := 11) (oi := ⟨some 39, _, _, _, _, _⟩) rfl (by kernel_rfl) (Or.inl ⟨by rfl, fun _ _ => by rfl⟩) hHeld ?_
          refine wpHB_tk hdir hsel hpan (i := 13) (oi := ⟨some 6, _, _, _, _, _⟩) rfl (by kernel_rfl) (Or.inl ⟨by rfl, fun _ _ => by rfl⟩) hHeld ?_
          try simp only [Act.put, List.setIfInBounds_toArray, List.set_cons_zero, List.set_cons_succ]
          refine wpHB_ready (rs := [14]) (by kernel_rfl) (by simp) ?_
          refine AllHB.cons (by kernel_rfl) (o := ⟨none, _, _, _, _, _⟩) rfl (fun K hK => ?_) AllHB.nil
          rw [if_pos (by rfl)]
          refine wp_store_all 36 _ _ rfl _ 36 [] (pairA 0 0).toList [] (pairA 0 0).toList rfl rfl (gp.then_ (below_then hbc (below_then hbd (below_then hbb hbm)))) rfl (by kernel_rfl) (by simp [Value.oneCell']) ?_
          intro w8 g8 U8
          have hq8 := (hqM.then_ (Below.refl _ _)).same U8 (gp.then_ (below_then hbc (below_then hbd (below_then hbb hbm)))) g8
          refine hK.out _ _ (Lib.hid (hHeld.out.trans (U8.b _ lb))) (fun hHeld => ?_)
          clear hK K
          try simp only [Act.put]
          refine wpHB_tail (by kernel_rfl) (by kernel_rfl) ?_
          clear hdir hsel hpan
          simp only [opsAt, List.getElem?_toArray, List.getElem?_cons_succ, List.getElem?_cons_zero, Option.toList_some, List.cons_append, List.nil_append]
          go_wp2
          exact hdone.out _ _ _ _ _ _ _ _ _ _ _ _ _ _ _ _ ⟨_, _, _, _, rfl, rfl, rfl, g8, hq8, hM, hlM, lb, hHeld.out⟩
        exact AllHB.nil
      exact AllHB.nil
    exact AllHB.nil
  refine AllHB.cons (by kernel_rfl) (o := ⟨some 7, _, _, _, _, _⟩) rfl (fun K hK => ?_) ?_
  · go_simp
    have lb := hHeld.out.size
    refine name_k ?_
    intro Vp hVp
    first | obtain ⟨gp, hbp⟩ := pair_new hVp | obtain ⟨gp, hbp⟩ := pair_new (W := w6.drew) hVp
    clear hVp
    refine hK.out _ _ (Lib.hid (below_then hHeld.out hbp)) (fun hHeld => ?_)
    clear hK K
    try simp only [Act.put, List.setIfInBounds_toArray, List.set_cons_zero, List.set_cons_succ]
    refine wpHB_ready (rs := [2]) (by kernel_rfl) (by simp) ?_
    refine AllHB.cons (by kernel_rfl) (o := ⟨some 31, _, _, _, _, _⟩) rfl (fun K hK => ?_) AllHB.nil
    go_simp
    (go_at_call 22; (with_reducible refine (HW.out _ _).mono ?_); rintro e wa ⟨⟨pma, rfl, hpa, _⟩, hba⟩)
    refine hK.out _ _ (Lib.hid (below_then hHeld.out hba)) (fun hHeld => ?_)
    clear hK K
    try simp only [Act.put, List.setIfInBounds_toArray, List.set_cons_zero, List.set_cons_succ]
    refine wpHB_ready (rs := [3, 5]) (by kernel_rfl) (by simp) ?_
    refine AllHB.cons (by kernel_rfl) (o := ⟨some 32, _, _, _, _, _⟩) rfl (fun K hK => ?_) ?_
    · go_simp
      refine name_k ?_
      intro Vb hVb
      obtain ⟨hqb, hbb⟩ := pats_new ⟨Pat.waive 0, pma⟩ hVb (hpa.then_ (Below.refl _ _))
      clear hVb
      first | replace hqb : Pats Vb (some ⟨w6.heap.size, 0, none⟩) _ := hqb | skip
      refine hK.out _ _ (Lib.hid (below_then hHeld.out hbb)) (fun hHeld => ?_)
      clear hK K
      try simp only [Act.put, List.setIfInBounds_toArray, List.set_cons_zero, List.set_cons_succ]
      refine wpHB_ready (rs := [5]) (by kernel_rfl) (by simp) ?_
      refine AllHB.cons (by kernel_rfl) (o := ⟨some 34, _, _, _, _, _⟩) rfl (fun K hK => ?_) AllHB.nil
      go_simp
      (go_at_call 23; (with_reducible refine (HS.out _ _ _).mono ?_); rintro e wd ⟨⟨pmc, rfl, hpc, _⟩, hbc⟩)
      refine hK.out _ _ (Lib.hid (below_then hHeld.out hbc)) (fun hHeld => ?_)
      clear hK K
      try simp only [Act.put, List.setIfInBounds_toArray, List.set_cons_zero, List.set_cons_succ]
      refine wpHB_ready (rs := [6]) (by kernel_rfl) (by simp) ?_
      refine AllHB.cons (by kernel_rfl) (o := ⟨some 35, _, _, _, _, _⟩) rfl (fun K hK => ?_) AllHB.nil
      go_simp
      refine name_k ?_
      intro Vd hVd
      obtain ⟨hqd, hbd⟩ := pats_new ⟨Pat.span 1 5, pmc⟩ hVd (hpc.then_ (Below.refl _ _))
      clear hVd
      first | replace hqd : Pats Vd (some ⟨w6.heap.size, 0, none⟩) _ := hqd | skip
      refine hK.out _ _ (Lib.hid (below_then hHeld.out hbd)) (fun hHeld => ?_)
      clear hK K
      try simp only [Act.put, List.setIfInBounds_toArray, List.set_cons_zero, List.set_cons_succ]
      refine wpHB_ready (rs := [7]) (by kernel_rfl) (by simp) ?_
      refine AllHB.cons (by kernel_rfl) (o := ⟨some 36, _, _, _, _, _⟩) rfl (fun K hK => ?_) AllHB.nil
      go_simp
      (go_at_call 13; (with_reducible refine (HM6.out pma pmc _ _ _ (HCO.out.then_ hHeld.out) (hqb.then_ (below_then hbc hbd)) (hqd.then_ (Below.refl _ _))).mono ?_); rintro e wm ⟨⟨AM, kM, M, rfl, hM, hqM, hlM⟩, hbm⟩)
      refine hK.out _ _ (Lib.hid (below_then hHeld.out hbm)) (fun hHeld => ?_)
      clear hK K
      try simp only [Act.put, List.setIfInBounds_toArray, List.set_cons_zero, List.set_cons_succ]
      refine wpHB_tk hdir hsel hpan (i := 8) (oi := ⟨some 28, _, _, _, _, _⟩) rfl (by kernel_rfl) (Or.inl ⟨by rfl, fun _ _ => by rfl⟩) hHeld ?_
      refine wpHB_tk hdir hsel hpan (i := 9) (oi := ⟨some 37, _, _, _, _, _⟩) rfl (by kernel_rfl) (Or.inl ⟨by rfl, fun _ _ => by rfl⟩) hHeld ?_
      refine wpHB_tk hdir hsel hpan (i := 10) (oi := ⟨some 38, _, _, _, _, _⟩) rfl (by kernel_rfl) (Or.inl ⟨by rfl, fun _ _ => by rfl⟩) hHeld ?_
      refine wpHB_tk hdir hsel hpan (i := 11) (oi := ⟨some 39, _, _, _, _, _⟩) rfl (by kernel_rfl) (Or.inl ⟨by rfl, fun _ _ => by rfl⟩) hHeld ?_
      refine wpHB_tk hdir hsel hpan (i := 13) (oi := ⟨some 6, _, _, _, _, _⟩) rfl (by kernel_rfl) (Or.inl ⟨by rfl, fun _ _ => by rfl⟩) hHeld ?_
      try simp only [Act.put, List.setIfInBounds_toArray, List.set_cons_zero, List.set_cons_succ]
      refine wpHB_ready (rs := [14]) (by kernel_rfl) (by simp) ?_
      refine AllHB.cons (by kernel_rfl) (o := ⟨none, _, _, _, _, _⟩) rfl (fun K hK => ?_) AllHB.nil
      rw [if_pos (by rfl)]
      refine wp_store_all 36 _ _ rfl _ 36 [] (pairA 0 0).toList [] (pairA 0 0).toList rfl rfl (gp.then_ (below_then hba (below_then hbb (below_then hbc (below_then hbd hbm))))) rfl (by kernel_rfl) (by simp [Value.oneCell']) ?_
      intro w8 g8 U8
      have hq8 := (hqM.then_ (Below.refl _ _)).same U8 (gp.then_ (below_then hba (below_then hbb (below_then hbc (below_then hbd hbm))))) g8
      refine hK.out _ _ (Lib.hid (hHeld.out.trans (U8.b _ lb))) (fun hHeld => ?_)
      clear hK K
      try simp only [Act.put]
      refine wpHB_tail (by kernel_rfl) (by kernel_rfl) ?_
      clear hdir hsel hpan
      simp only [opsAt, List.getElem?_toArray, List.getElem?_cons_succ, List.getElem?_cons_zero, Option.toList_some, List.cons_append, List.nil_append]
      go_wp2
      exact hdone.out _ _ _ _ _ _ _ _ _ _ _ _ _ _ _ _ ⟨_, _, _, _, rfl, rfl, rfl, g8, hq8, hM, hlM, lb, hHeld.out⟩
    refine AllHB.cons (by kernel_rfl) (o := ⟨some 34, _, _, _, _, _⟩) rfl (fun K hK => ?_) ?_
    · go_simp
      (go_at_call 23; (with_reducible refine (HS.out _ _ _).mono ?_); rintro e wd ⟨⟨pmc, rfl, hpc, _⟩, hbc⟩)
      refine hK.out _ _ (Lib.hid (below_then hHeld.out hbc)) (fun hHeld => ?_)
      clear hK K
      try simp only [Act.put, List.setIfInBounds_toArray, List.set_cons_zero, List.set_cons_succ]
      refine wpHB_ready (rs := [3, 6]) (by kernel_rfl) (by simp) ?_
      refine AllHB.cons (by kernel_rfl) (o := ⟨some 32, _, _, _, _, _⟩) rfl (fun K hK => ?_) ?_
      · go_simp
        refine name_k ?_
        intro Vb hVb
        obtain ⟨hqb, hbb⟩ := pats_new ⟨Pat.waive 0, pma⟩ hVb (hpa.then_ hbc)
        clear hVb
        first | replace hqb : Pats Vb (some ⟨w6.heap.size, 0, none⟩) _ := hqb | skip
        refine hK.out _ _ (Lib.hid (below_then hHeld.out hbb)) (fun hHeld => ?_)
        clear hK K
        try simp only [Act.put, List.setIfInBounds_toArray, List.set_cons_zero, List.set_cons_succ]
        refine wpHB_ready (rs := [6]) (by kernel_rfl) (by simp) ?_
        refine AllHB.cons (by kernel_rfl) (o := ⟨some 35, _, _, _, _, _⟩) rfl (fun K hK => ?_) AllHB.nil
        go_simp
        refine name_k ?_
        intro Vd hVd
        obtain ⟨hqd, hbd⟩ := pats_new ⟨Pat.span 1 5, pmc⟩ hVd (hpc.then_ hbb)
        clear hVd
        first | replace hqd : Pats Vd (some ⟨w6.heap.size, 0, none⟩) _ := hqd | skip
        refine hK.out _ _ (Lib.hid (below_then hHeld.out hbd)) (fun hHeld => ?_)
        clear hK K
        try simp only [Act.put, List.setIfInBounds_toArray, List.set_cons_zero, List.set_cons_succ]
        refine wpHB_ready (rs := [7]) (by kernel_rfl) (by simp) ?_
        refine AllHB.cons (by kernel_rfl) (o := ⟨some 36, _, _, _, _, _⟩) rfl (fun K hK => ?_) AllHB.nil
        go_simp
        (go_at_call 13; (with_reducible refine (HM6.out pma pmc _ _ _ (HCO.out.then_ hHeld.out) (hqb.then_ hbd) (hqd.then_ (Below.refl _ _))).mono ?_); rintro e wm ⟨⟨AM, kM, M, rfl, hM, hqM, hlM⟩, hbm⟩)
        refine hK.out _ _ (Lib.hid (below_then hHeld.out hbm)) (fun hHeld => ?_)
        clear hK K
        try simp only [Act.put, List.setIfInBounds_toArray, List.set_cons_zero, List.set_cons_succ]
        refine wpHB_tk hdir hsel hpan (i := 8) (oi := ⟨some 28, _, _, _, _, _⟩) rfl (by kernel_rfl) (Or.inl ⟨by rfl, fun _ _ => by rfl⟩) hHeld ?_
        refine wpHB_tk hdir hsel hpan (i := 9) (oi := ⟨some 37, _, _, _, _, _⟩) rfl (by kernel_rfl) (Or.inl ⟨by rfl, fun _ _ => by rfl⟩) hHeld ?_
        refine wpHB_tk hdir hsel hpan (i := 10) (oi := ⟨some 38, _, _, _, _, _⟩) rfl (by kernel_rfl) (Or.inl ⟨by rfl, fun _ _ => by rfl⟩) hHeld ?_
        refine wpHB_tk hdir hsel hpan (i := 11) (oi := ⟨some 39, _, _, _, _, _⟩) rfl (by kernel_rfl) (Or.inl ⟨by rfl, fun _ _ => by rfl⟩) hHeld ?_
        refine wpHB_tk hdir hsel hpan (i := 13) (oi := ⟨some 6, _, _, _, _, _⟩) rfl (by kernel_rfl) (Or.inl ⟨by rfl, fun _ _ => by rfl⟩) hHeld ?_
        try simp only [Act.put, List.setIfInBounds_toArray, List.set_cons_zero, List.set_cons_succ]
        refine wpHB_ready (rs := [14]) (by kernel_rfl) (by simp) ?_
        refine AllHB.cons (by kernel_rfl) (o := ⟨none, _, _, _, _, _⟩) rfl (fun K hK => ?_) AllHB.nil
        rw [if_pos (by rfl)]
        refine wp_store_all 36 _ _ rfl _ 36 [] (pairA 0 0).toList [] (pairA 0 0).toList rfl rfl (gp.then_ (below_then hba (below_then hbc (below_then hbb (below_then hbd hbm))))) rfl (by kernel_rfl) (by simp [Value.oneCell']) ?_
        intro w8 g8 U8
        have hq8 := (hqM.then_ (Below.refl _ _)).same U8 (gp.then_ (below_then hba (below_then hbc (below_then hbb (below_then hbd hbm))))) g8
        refine hK.out _ _ (Lib.hid (hHeld.out.trans (U8.b _ lb))) (fun hHeld => ?_)
        clear hK K
        try simp only [Act.put]
        refine wpHB_tail (by kernel_rfl) (by kernel_rfl) ?_
        clear hdir hsel hpan
        simp only [opsAt, List.getElem?_toArray, List.getElem?_cons_succ, List.getElem?_cons_zero, Option.toList_some, List.cons_append, List.nil_append]
        go_wp2
        exact hdone.out _ _ _ _ _ _ _ _ _ _ _ _ _ _ _ _ ⟨_, _, _, _, rfl, rfl, rfl, g8, hq8, hM, hlM, lb, hHeld.out⟩
      refine AllHB.cons (by kernel_rfl) (o := ⟨some 35, _, _, _, _, _⟩) rfl (fun K hK => ?_) ?_
      · go_simp
        refine name_k ?_
        intro Vd hVd
        obtain ⟨hqd, hbd⟩ := pats_new ⟨Pat.span 1 5, pmc⟩ hVd (hpc.then_ (Below.refl _ _))
        clear hVd
        first | replace hqd : Pats Vd (some ⟨w6.heap.size, 0, none⟩) _ := hqd | skip
        refine hK.out _ _ (Lib.hid (below_then hHeld.out hbd)) (fun hHeld => ?_)
        clear hK K
        try simp only [Act.put, List.setIfInBounds_toArray, List.set_cons_zero, List.set_cons_succ]
        refine wpHB_ready (rs := [3]) (by kernel_rfl) (by simp) ?_
        refine AllHB.cons (by kernel_rfl) (o := ⟨some 32, _, _, _, _, _⟩) rfl (fun K hK => ?_) AllHB.nil
        go_simp
        refine name_k ?_
        intro Vb hVb
        obtain ⟨hqb, hbb⟩ := pats_new ⟨Pat.waive 0, pma⟩ hVb (hpa.then_ (below_then hbc hbd))
        clear hVb
        first | replace hqb : Pats Vb (some ⟨w6.heap.size, 0, none⟩) _ := hqb | skip
        refine hK.out _ _ (Lib.hid (below_then hHeld.out hbb)) (fun hHeld => ?_)
        clear hK K
        try simp only [Act.put, List.setIfInBounds_toArray, List.set_cons_zero, List.set_cons_succ]
        refine wpHB_ready (rs := [7]) (by kernel_rfl) (by simp) ?_
        refine AllHB.cons (by kernel_rfl) (o := ⟨some 36, _, _, _, _, _⟩) rfl (fun K hK => ?_) AllHB.nil
        go_simp
        (go_at_call 13; (with_reducible refine (HM6.out pma pmc _ _ _ (HCO.out.then_ hHeld.out) (hqb.then_ (Below.refl _ _)) (hqd.then_ hbb)).mono ?_); rintro e wm ⟨⟨AM, kM, M, rfl, hM, hqM, hlM⟩, hbm⟩)
        refine hK.out _ _ (Lib.hid (below_then hHeld.out hbm)) (fun hHeld => ?_)
        clear hK K
        try simp only [Act.put, List.setIfInBounds_toArray, List.set_cons_zero, List.set_cons_succ]
        refine wpHB_tk hdir hsel hpan (i := 8) (oi := ⟨some 28, _, _, _, _, _⟩) rfl (by kernel_rfl) (Or.inl ⟨by rfl, fun _ _ => by rfl⟩) hHeld ?_
        refine wpHB_tk hdir hsel hpan (i := 9) (oi := ⟨some 37, _, _, _, _, _⟩) rfl (by kernel_rfl) (Or.inl ⟨by rfl, fun _ _ => by rfl⟩) hHeld ?_
        refine wpHB_tk hdir hsel hpan (i := 10) (oi := ⟨some 38, _, _, _, _, _⟩) rfl (by kernel_rfl) (Or.inl ⟨by rfl, fun _ _ => by rfl⟩) hHeld ?_
        refine wpHB_tk hdir hsel hpan (i := 11) (oi := ⟨some 39, _, _, _, _, _⟩) rfl (by kernel_rfl) (Or.inl ⟨by rfl, fun _ _ => by rfl⟩) hHeld ?_
        refine wpHB_tk hdir hsel hpan (i := 13) (oi := ⟨some 6, _, _, _, _, _⟩) rfl (by kernel_rfl) (Or.inl ⟨by rfl, fun _ _ => by rfl⟩) hHeld ?_
        try simp only [Act.put, List.setIfInBounds_toArray, List.set_cons_zero, List.set_cons_succ]
        refine wpHB_ready (rs := [14]) (by kernel_rfl) (by simp) ?_
        refine AllHB.cons (by kernel_rfl) (o := ⟨none, _, _, _, _, _⟩) rfl (fun K hK => ?_) AllHB.nil
        rw [if_pos (by rfl)]
        refine wp_store_all 36 _ _ rfl _ 36 [] (pairA 0 0).toList [] (pairA 0 0).toList rfl rfl (gp.then_ (below_then hba (below_then hbc (below_then hbd (below_then hbb hbm))))) rfl (by kernel_rfl) (by simp [Value.oneCell']) ?_
        intro w8 g8 U8
        have hq8 := (hqM.then_ (Below.refl _ _)).same U8 (gp.then_ (below_then hba (below_then hbc (below_then hbd (below_then hbb hbm))))) g8
        refine hK.out _ _ (Lib.hid (hHeld.out.trans (U8.b _ lb))) (fun hHeld => ?_)
        clear hK K
        try simp only [Act.put]
        refine wpHB_tail (by kernel_rfl) (by kernel_rfl) ?_
        clear hdir hsel hpan
        simp only [opsAt, List.getElem?_toArray, List.getElem?_cons_succ, List.getElem?_cons_zero, Option.toList_some, List.cons_append, List.nil_append]
        go_wp2
        exact hdone.out _ _ _ _ _ _ _ _ _ _ _ _ _ _ _ _ ⟨_, _, _, _, rfl, rfl, rfl, g8, hq8, hM, hlM, lb, hHeld.out⟩
      exact AllHB.nil
    exact AllHB.nil
  exact AllHB.nil
end Go.Proofs.Ytcplneglfbdooaa
