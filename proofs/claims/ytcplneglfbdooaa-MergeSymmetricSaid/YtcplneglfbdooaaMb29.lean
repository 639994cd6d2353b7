/- Contracts of functions and plain laws, joined: Krq11, Krq13. -/
import Derived.Test.YtcplneglfbdooaaMb24
/- The walk of region 11 of the law's head. -/
namespace Go.Proofs.Ytcplneglfbdooaa
open Go.RowKit

set_option maxRecDepth 100000 in
set_option maxHeartbeats 6400000 in
theorem head_r11 {Q : Exit → Act → World → Prop} (hQ : PanOk Q) (m : Cm) (bc b4 b5 : Nat) (p5 : Pm) (A6 A8 : Option Addr) (M6 M8 : List Pk) (k6 k8 b7' b9' : Nat) (w11 : World) {x0 x7 x9 x13 x15 x18 x19 x20 x21 x22 x23 x24 x25 x26 x27 x28 x29 x30 x31 x32 x33 x34 x35 x36 x37 x38 x39 x40 x41 x42 x43 x44 x45 x46 x47 x48 x49 x50 x51 x52 x53 x54 x55 x56 x57 x58 x59 x60 x61 x62 x63 x64 x65 x66 x67 x68 x69 x70 x71 x72 x73 x74 x75 x76 x77 x78 x79 x80 x81 x82 x83 x84 x85 x86 x87 x88 x89 x90 x91 x92 x93 x94 x95 x96 x97 x98 x99 x100 x101 x102 x103 x104 x105 x106 x107 x108 x109 x110 x111 x112 x113 x114 x115 x116 x117 x118 x119 x120 x121 x122 x123 x124 x125 x126 x127 x128 x129 x130 x131 x132 x133 x134 x135 x136 x137 x138 x139 x140 x141 x142 x143 x144 x145 x146 x147 x148 x149 x150 x151 x152 x153 x154 x155 x156 x157 x158 x159 x160 x161 x162 x163 x164 x165 x166 x167 x168 x169 x170 x171 x172 x173 x174 x175 x176 x177 x178 x179 x180 x181 x182 x183 x184 x185 x186 x187 x188 x189 : Value} (_GC : Hid (Blk w11 bc 27 (coA Con.ex m))) (G4 : Hid (Blk w11 b4 49 (pL (Pat.plus 7) ⟨none, 0, none, 0⟩))) (_G5 : Hid (Blk w11 b5 49 (pL (Pat.repl 0 5) p5))) (_HCO : Hid (Cont w11 Con.ex m)) (_HP5 : Hid (PatM w11 (Pat.repl 0 5) p5)) (HP4 : Hid (PatM w11 (Pat.plus 7) ⟨none, 0, none, 0⟩)) (HQ6 : Hid (Pats w11 A6 M6)) (HQ8 : Hid (Pats w11 A8 M8)) (GP7 : Hid (Blk w11 b7' 36 (pairA 0 0))) (GP9 : Hid (Blk w11 b9' 36 (pairA 1 0))) (EQ6 : Hid (pats M6 = [Pat.waive 0, Pat.span 1 5])) (EQ8 : Hid (pats M8 = [Pat.plus 7, Pat.plus 7, Pat.waive 3]))
    (hdone : Hid (∀ (v20 v83 v84 v85 v86 v87 v88 v89 v90 v91 v92 v93 v94 v95 v96 v97 v98 v99 v100 v101 v102 v103 v104 v105 v106 v107 v108 v109 v110 v111 v112 v113 v114 v115 v116 v117 v118 v119 v120 v121 v122 v123 v124 : Value) (W : World), (v20 = .bool true ∧ Below w11.heap.size w11 W) → Q .normal ⟨#[x0, .pointer (some ⟨bc, 0, none⟩), .func (.func 22) #[] #[], .func (.func 23) #[] #[], .pointer (some ⟨b4, 0, none⟩), .pointer (some ⟨b5, 0, none⟩), .slice A6 M6.length k6, x7, .int .i64 0, x9, .pointer (some ⟨b7', 0, none⟩), .int .i64 16, .slice A8 M8.length k8, x13, .int .i64 0, x15, .pointer (some ⟨b9', 0, none⟩), .int .i64 16, x18, x19, v20, x21, x22, x23, x24, x25, x26, x27, x28, x29, x30, x31, x32, x33, x34, x35, x36, x37, x38, x39, x40, x41, x42, x43, x44, x45, x46, x47, x48, x49, x50, x51, x52, x53, x54, x55, x56, x57, x58, x59, x60, x61, x62, x63, x64, x65, x66, x67, x68, x69, x70, x71, x72, x73, x74, x75, x76, x77, x78, x79, x80, x81, x82, v83, v84, v85, v86, v87, v88, v89, v90, v91, v92, v93, v94, v95, v96, v97, v98, v99, v100, v101, v102, v103, v104, v105, v106, v107, v108, v109, v110, v111, v112, v113, v114, v115, v116, v117, v118, v119, v120, v121, v122, v123, v124, x125, x126, x127, x128, x129, x130, x131, x132, x133, x134, x135, x136, x137, x138, x139, x140, x141, x142, x143, x144, x145, x146, x147, x148, x149, x150, x151, x152, x153, x154, x155, x156, x157, x158, x159, x160, x161, x162, x163, x164, x165, x166, x167, x168, x169, x170, x171, x172, x173, x174, x175, x176, x177, x178, x179, x180, x181, x182, x183, x184, x185, x186, x187, x188, x189], []⟩ W)) :
    (atR Try.f9 11).wp Try.prog Q ⟨#[x0, .pointer (some ⟨bc, 0, none⟩), .func (.func 22) #[] #[], .func (.func 23) #[] #[], .pointer (some ⟨b4, 0, none⟩), .pointer (some ⟨b5, 0, none⟩), .slice A6 M6.length k6, x7, .int .i64 0, x9, .pointer (some ⟨b7', 0, none⟩), .int .i64 16, .slice A8 M8.length k8, x13, .int .i64 0, x15, .pointer (some ⟨b9', 0, none⟩), .int .i64 16, x18, x19, x20, x21, x22, x23, x24, x25, x26, x27, x28, x29, x30, x31, x32, x33, x34, x35, x36, x37, x38, x39, x40, x41, x42, x43, x44, x45, x46, x47, x48, x49, x50, x51, x52, x53, x54, x55, x56, x57, x58, x59, x60, x61, x62, x63, x64, x65, x66, x67, x68, x69, x70, x71, x72, x73, x74, x75, x76, x77, x78, x79, x80, x81, x82, x83, x84, x85, x86, x87, x88, x89, x90, x91, x92, x93, x94, x95, x96, x97, x98, x99, x100, x101, x102, x103, x104, x105, x106, x107, x108, x109, x110, x111, x112, x113, x114, x115, x116, x117, x118, x119, x120, x121, x122, x123, x124, x125, x126, x127, x128, x129, x130, x131, x132, x133, x134, x135, x136, x137, x138, x139, x140, x141, x142, x143, x144, x145, x146, x147, x148, x149, x150, x151, x152, x153, x154, x155, x156, x157, x158, x159, x160, x161, x162, x163, x164, x165, x166, x167, x168, x169, x170, x171, x172, x173, x174, x175, x176, x177, x178, x179, x180, x181, x182, x183, x184, x185, x186, x187, x188, x189], []⟩ w11 := by
  conv => { arg 2; whnf }
  have HW := Lib.hid (fun i W => lwaive_any i W)
  have HS := Lib.hid (fun i d W => lspan_any i d W)
  refine wp_region_hb (fun w' => Hid (Below w11.heap.size w11 w')) [0, 1, 2, 3, 4, 5, 6, 7, 8, 9, 10, 11, 12, 13, 14, 15, 16, 17, 18, 19, 20, 21, 22, 23, 24, 25, 26, 27, 28, 29, 30, 31, 32, 33, 34, 35, 36, 37, 38, 39, 40, 41] [42] (by kernel_rfl) (by kernel_rfl) hQ (Lib.hid (Below.drew (Below.refl _ _))) (fun hdir hsel hpan hHeld => ?_)
  refine wpHB_take (i := 0) (oi := ⟨some 83, _, _, _, _, _⟩) hdir hsel hpan rfl (by kernel_rfl) (by kernel_rfl) (by kernel_rfl) (Or.inl ⟨by rfl, fun _ _ => by rfl⟩) (by assumption) ?_
  try simp only [Act.put, List.setIfInBounds_toArray, List.set_cons_zero, List.set_cons_succ]
  refine wpHB_take (i := 1) (oi := ⟨some 84, _, _, _, _, _⟩) (v := .bool true) hdir hsel hpan rfl (by kernel_rfl) (by kernel_rfl) (by kernel_rfl) (Or.inl ⟨by rfl, fun w hw => by rfl⟩) (by assumption) ?_
  try simp only [Act.put, List.setIfInBounds_toArray, List.set_cons_zero, List.set_cons_succ]
  refine wpHB_take (i := 2) (oi := ⟨some 85, _, _, _, _, _⟩) hdir hsel hpan rfl (by kernel_rfl) (by kernel_rfl) (by kernel_rfl) (Or.inl ⟨by rfl, fun _ _ => by rfl⟩) (by assumption) ?_
  try simp only [Act.put, List.setIfInBounds_toArray, List.set_cons_zero, List.set_cons_succ]
  refine wpHB_take (i := 3) (oi := ⟨some 86, _, _, _, _, _⟩) hdir hsel hpan rfl (by kernel_rfl) (by kernel_rfl) (by kernel_rfl) (Or.inl ⟨by rfl, fun _ _ => by rfl⟩) (by assumption) ?_
  try simp only [Act.put, List.setIfInBounds_toArray, List.set_cons_zero, List.set_cons_succ]
  refine wpHB_take (i := 4) (oi := ⟨some 87, _, _, _, _, _⟩) (v := .func (.func 22) #[] #[]) hdir hsel hpan rfl (by kernel_rfl) (by kernel_rfl) (by kernel_rfl) (Or.inl ⟨by rfl, fun w hw => by rfl⟩) (by assumption) ?_
  try simp only [Act.put, List.setIfInBounds_toArray, List.set_cons_zero, List.set_cons_succ]
  refine wpHB_take (i := 6) (oi := ⟨some 89, _, _, _, _, _⟩) (v := .func (.func 23) #[] #[]) hdir hsel hpan rfl (by kernel_rfl) (by kernel_rfl) (by kernel_rfl) (Or.inl ⟨by rfl, fun w hw => by rfl⟩) (by assumption) ?_
  try simp only [Act.put, List.setIfInBounds_toArray, List.set_cons_zero, List.set_cons_succ]
  refine wpHB_ready (rs := [5]) (by kernel_rfl) (by simp) ?_
  refine AllHB.cons (by kernel_rfl) (o := ⟨some 88, _, _, _, _, _⟩) rfl (fun K hK => ?_) AllHB.nil
  rw [if_pos (by rfl)]
  go_simp
  (go_at_call 22; (with_reducible refine (HW.out _ _).mono ?_); rintro e wa ⟨⟨pma, rfl, hpa, _⟩, hba⟩)
  refine hK.out _ _ (Lib.hid (below_then hHeld.out hba)) (fun hHeld2 => ?_)
  clear hK K hHeld
  have hHeld := hHeld2
  clear hHeld2
  try simp only [Act.put, List.setIfInBounds_toArray, List.set_cons_zero, List.set_cons_succ]
  refine wpHB_ready (rs := [7]) (by kernel_rfl) (by simp) ?_
  refine AllHB.cons (by kernel_rfl) (o := ⟨some 90, _, _, _, _, _⟩) rfl (fun K hK => ?_) AllHB.nil
  rw [if_pos (by rfl)]
  go_simp
  (go_at_call 23; (with_reducible refine (HS.out _ _ _).mono ?_); rintro e wb ⟨⟨pmb, rfl, hpb, _⟩, hbb⟩)
  refine hK.out _ _ (Lib.hid (below_then hHeld.out hbb)) (fun hHeld2 => ?_)
  clear hK K hHeld
  have hHeld := hHeld2
  clear hHeld2
  try simp only [Act.put, List.setIfInBounds_toArray, List.set_cons_zero, List.set_cons_succ]
  refine wpHB_ready (rs := [8]) (by kernel_rfl) (by simp) ?_
  refine AllHB.cons (by kernel_rfl) (o := ⟨some 91, _, _, _, _, _⟩) rfl (fun K hK => ?_) AllHB.nil
  rw [if_pos (by rfl)]
  go_simp
  refine name_k ?_
  intro Vc hVc
  obtain ⟨hqc, hbc⟩ := pats_new2 ⟨Pat.waive 0, pma⟩ ⟨Pat.span 1 5, pmb⟩ hVc (hpa.then_ hbb) (hpb.then_ (Below.refl _ _))
  clear hVc
  refine hK.out _ _ (Lib.hid (below_then hHeld.out hbc)) (fun hHeld2 => ?_)
  clear hK K hHeld
  have hHeld := hHeld2
  clear hHeld2
  try simp only [Act.put, List.setIfInBounds_toArray, List.set_cons_zero, List.set_cons_succ]
  refine wpHB_ready (rs := [9]) (by kernel_rfl) (by simp) ?_
  refine AllHB.cons (by kernel_rfl) (o := ⟨some 92, _, _, _, _, _⟩) rfl (fun K hK => ?_) AllHB.nil
  rw [if_pos (by rfl)]
  go_simp
  have eq9 : pats M6 = pats [⟨Pat.waive 0, pma⟩, ⟨Pat.span 1 5, pmb⟩] := EQ6.out
  (go_at_call 14; (with_reducible refine (same_at M6 [⟨Pat.waive 0, pma⟩, ⟨Pat.span 1 5, pmb⟩] _ _ _ _ M6.length 2 _ (HQ6.out.then_ hHeld.out) (hqc.then_ (Below.refl _ _)) rfl rfl eq9).mono ?_); rintro e wd ⟨rfl, hbd⟩)
  refine hK.out _ _ (Lib.hid (below_then hHeld.out hbd)) (fun hHeld2 => ?_)
  clear hK K hHeld
  have hHeld := hHeld2
  clear hHeld2
  try simp only [Act.put, List.setIfInBounds_toArray, List.set_cons_zero, List.set_cons_succ]
  refine wpHB_take (i := 10) (oi := ⟨some 93, _, _, _, _, _⟩) (v := .bool true) hdir hsel hpan rfl (by kernel_rfl) (by kernel_rfl) (by kernel_rfl) (Or.inl ⟨by rfl, fun w hw => by rfl⟩) (by assumption) ?_
  try simp only [Act.put, List.setIfInBounds_toArray, List.set_cons_zero, List.set_cons_succ]
  refine wpHB_take (i := 11) (oi := ⟨some 94, _, _, _, _, _⟩) hdir hsel hpan rfl (by kernel_rfl) (by kernel_rfl) (by kernel_rfl) (Or.inl ⟨by rfl, fun _ _ => by rfl⟩) (by assumption) ?_
  try simp only [Act.put, List.setIfInBounds_toArray, List.set_cons_zero, List.set_cons_succ]
  refine wpHB_take (i := 12) (oi := ⟨some 95, _, _, _, _, _⟩) hdir hsel hpan rfl (by kernel_rfl) (by kernel_rfl) (by kernel_rfl) (Or.inl ⟨by rfl, fun _ _ => by rfl⟩) (by assumption) ?_
  try simp only [Act.put, List.setIfInBounds_toArray, List.set_cons_zero, List.set_cons_succ]
  refine wpHB_take (i := 13) (oi := ⟨some 96, _, _, _, _, _⟩) (v := .bool true) hdir hsel hpan rfl (by kernel_rfl) (by kernel_rfl) (by kernel_rfl) (Or.inl ⟨by rfl, fun w hw => by rfl⟩) (by assumption) ?_
  try simp only [Act.put, List.setIfInBounds_toArray, List.set_cons_zero, List.set_cons_succ]
  refine wpHB_take (i := 14) (oi := ⟨some 97, _, _, _, _, _⟩) (v := .bool true) hdir hsel hpan rfl (by kernel_rfl) (by kernel_rfl) (by kernel_rfl) (Or.inl ⟨by rfl, fun w hw => by rfl⟩) (by assumption) ?_
  try simp only [Act.put, List.setIfInBounds_toArray, List.set_cons_zero, List.set_cons_succ]
  refine wpHB_take (i := 15) (oi := ⟨some 98, _, _, _, _, _⟩) hdir hsel hpan rfl (by kernel_rfl) (by kernel_rfl) (by kernel_rfl) (Or.inl ⟨by rfl, fun _ _ => by rfl⟩) (by assumption) ?_
  try simp only [Act.put, List.setIfInBounds_toArray, List.set_cons_zero, List.set_cons_succ]
  refine wpHB_take (i := 16) (oi := ⟨some 99, _, _, _, _, _⟩) hdir hsel hpan rfl (by kernel_rfl) (by kernel_rfl) (by kernel_rfl) (yieldsIf_arr (by rfl) 36 _ rfl _ rfl 36 _ (fun w hw => GP7.out.then_ hw.out) Try.underlying36 (by kernel_rfl)) (by assumption) ?_
  try simp only [Act.put, List.setIfInBounds_toArray, List.set_cons_zero, List.set_cons_succ]
  refine wpHB_take (i := 17) (oi := ⟨some 100, _, _, _, _, _⟩) (v := .agg (pairA 0 0)) hdir hsel hpan rfl (by kernel_rfl) (by kernel_rfl) (by kernel_rfl) (Or.inl ⟨by rfl, fun w hw => by kernel_rfl⟩) (by assumption) ?_
  try simp only [Act.put, List.setIfInBounds_toArray, List.set_cons_zero, List.set_cons_succ]
  refine wpHB_take (i := 18) (oi := ⟨some 101, _, _, _, _, _⟩) (v := .bool true) hdir hsel hpan rfl (by kernel_rfl) (by kernel_rfl) (by kernel_rfl) (Or.inl ⟨by rfl, fun w hw => by kernel_rfl⟩) (by assumption) ?_
  try simp only [Act.put, List.setIfInBounds_toArray, List.set_cons_zero, List.set_cons_succ]
  refine wpHB_take (i := 19) (oi := ⟨some 102, _, _, _, _, _⟩) (v := .bool true) hdir hsel hpan rfl (by kernel_rfl) (by kernel_rfl) (by kernel_rfl) (Or.inl ⟨by rfl, fun w hw => by rfl⟩) (by assumption) ?_
  try simp only [Act.put, List.setIfInBounds_toArray, List.set_cons_zero, List.set_cons_succ]
  refine wpHB_take (i := 20) (oi := ⟨some 103, _, _, _, _, _⟩) hdir hsel hpan rfl (by kernel_rfl) (by kernel_rfl) (by kernel_rfl) (Or.inl ⟨by rfl, fun _ _ => by rfl⟩) (by assumption) ?_
  try simp only [Act.put, List.setIfInBounds_toArray, List.set_cons_zero, List.set_cons_succ]
  refine wpHB_take (i := 21) (oi := ⟨some 104, _, _, _, _, _⟩) hdir hsel hpan rfl (by kernel_rfl) (by kernel_rfl) (by kernel_rfl) (Or.inl ⟨by rfl, fun _ _ => by rfl⟩) (by assumption) ?_
  try simp only [Act.put, List.setIfInBounds_toArray, List.set_cons_zero, List.set_cons_succ]
  refine wpHB_take (i := 22) (oi := ⟨some 105, _, _, _, _, _⟩) (v := .bool true) hdir hsel hpan rfl (by kernel_rfl) (by kernel_rfl) (by kernel_rfl) (Or.inl ⟨by rfl, fun w hw => by rfl⟩) (by assumption) ?_
  try simp only [Act.put, List.setIfInBounds_toArray, List.set_cons_zero, List.set_cons_succ]
  refine wpHB_take (i := 23) (oi := ⟨some 106, _, _, _, _, _⟩) (v := .bool true) hdir hsel hpan rfl (by kernel_rfl) (by kernel_rfl) (by kernel_rfl) (Or.inl ⟨by rfl, fun w hw => by rfl⟩) (by assumption) ?_
  try simp only [Act.put, List.setIfInBounds_toArray, List.set_cons_zero, List.set_cons_succ]
  refine wpHB_take (i := 24) (oi := ⟨some 107, _, _, _, _, _⟩) hdir hsel hpan rfl (by kernel_rfl) (by kernel_rfl) (by kernel_rfl) (Or.inl ⟨by rfl, fun _ _ => by rfl⟩) (by assumption) ?_
  try simp only [Act.put, List.setIfInBounds_toArray, List.set_cons_zero, List.set_cons_succ]
  refine wpHB_take (i := 25) (oi := ⟨some 108, _, _, _, _, _⟩) hdir hsel hpan rfl (by kernel_rfl) (by kernel_rfl) (by kernel_rfl) (Or.inl ⟨by rfl, fun _ _ => by rfl⟩) (by assumption) ?_
  try simp only [Act.put, List.setIfInBounds_toArray, List.set_cons_zero, List.set_cons_succ]
  refine wpHB_take (i := 26) (oi := ⟨some 109, _, _, _, _, _⟩) hdir hsel hpan rfl (by kernel_rfl) (by kernel_rfl) (by kernel_rfl) (yieldsIf_row (by rfl) 49 _ rfl b4 rfl 49 _ (fun w hw => (G4.out.then_ hw.out)) ⟨_, Try.underlying49⟩ (by kernel_rfl)) (by assumption) ?_
  try simp only [Act.put, List.setIfInBounds_toArray, List.set_cons_zero, List.set_cons_succ]
  refine wpHB_take (i := 27) (oi := ⟨some 110, _, _, _, _, _⟩) hdir hsel hpan rfl (by kernel_rfl) (by kernel_rfl) (by kernel_rfl) (yieldsIf_row (by rfl) 49 _ rfl b4 rfl 49 _ (fun w hw => (G4.out.then_ hw.out)) ⟨_, Try.underlying49⟩ (by kernel_rfl)) (by assumption) ?_
  try simp only [Act.put, List.setIfInBounds_toArray, List.set_cons_zero, List.set_cons_succ]
  refine wpHB_take (i := 28) (oi := ⟨some 111, _, _, _, _, _⟩) (v := .func (.func 22) #[] #[]) hdir hsel hpan rfl (by kernel_rfl) (by kernel_rfl) (by kernel_rfl) (Or.inl ⟨by rfl, fun w hw => by rfl⟩) (by assumption) ?_
  try simp only [Act.put, List.setIfInBounds_toArray, List.set_cons_zero, List.set_cons_succ]
  refine wpHB_ready (rs := [29]) (by kernel_rfl) (by simp) ?_
  refine AllHB.cons (by kernel_rfl) (o := ⟨some 112, _, _, _, _, _⟩) rfl (fun K hK => ?_) AllHB.nil
  rw [if_pos (by rfl)]
  go_simp
  (go_at_call 22; (with_reducible refine (HW.out _ _).mono ?_); rintro e we ⟨⟨pme, rfl, hpe, _⟩, hbe⟩)
  refine hK.out _ _ (Lib.hid (below_then hHeld.out hbe)) (fun hHeld2 => ?_)
  clear hK K hHeld
  have hHeld := hHeld2
  clear hHeld2
  try simp only [Act.put, List.setIfInBounds_toArray, List.set_cons_zero, List.set_cons_succ]
  refine wpHB_ready (rs := [30]) (by kernel_rfl) (by simp) ?_
  refine AllHB.cons (by kernel_rfl) (o := ⟨some 113, _, _, _, _, _⟩) rfl (fun K hK => ?_) AllHB.nil
  rw [if_pos (by rfl)]
  go_simp
  refine name_k ?_
  intro Vf hVf
  obtain ⟨hqf, hbf⟩ := pats_new3 ⟨Pat.plus 7, ⟨none, 0, none, 0⟩⟩ ⟨Pat.plus 7, ⟨none, 0, none, 0⟩⟩ ⟨Pat.waive 3, pme⟩ hVf (HP4.out.then_ hHeld.out) (HP4.out.then_ hHeld.out) (hpe.then_ (Below.refl _ _))
  clear hVf
  refine hK.out _ _ (Lib.hid (below_then hHeld.out hbf)) (fun hHeld2 => ?_)
  clear hK K hHeld
  have hHeld := hHeld2
  clear hHeld2
  try simp only [Act.put, List.setIfInBounds_toArray, List.set_cons_zero, List.set_cons_succ]
  refine wpHB_ready (rs := [31]) (by kernel_rfl) (by simp) ?_
  refine AllHB.cons (by kernel_rfl) (o := ⟨some 114, _, _, _, _, _⟩) rfl (fun K hK => ?_) AllHB.nil
  rw [if_pos (by rfl)]
  go_simp
  have eq31 : pats M8 = pats [⟨Pat.plus 7, ⟨none, 0, none, 0⟩⟩, ⟨Pat.plus 7, ⟨none, 0, none, 0⟩⟩, ⟨Pat.waive 3, pme⟩] := EQ8.out
  (go_at_call 14; (with_reducible refine (same_at M8 [⟨Pat.plus 7, ⟨none, 0, none, 0⟩⟩, ⟨Pat.plus 7, ⟨none, 0, none, 0⟩⟩, ⟨Pat.waive 3, pme⟩] _ _ _ _ M8.length 3 _ (HQ8.out.then_ hHeld.out) (hqf.then_ (Below.refl _ _)) rfl rfl eq31).mono ?_); rintro e wg ⟨rfl, hbg⟩)
  refine hK.out _ _ (Lib.hid (below_then hHeld.out hbg)) (fun hHeld2 => ?_)
  clear hK K hHeld
  have hHeld := hHeld2
  clear hHeld2
  try simp only [Act.put, List.setIfInBounds_toArray, List.set_cons_zero, List.set_cons_succ]
  refine wpHB_take (i := 32) (oi := ⟨some 115, _, _, _, _, _⟩) (v := .bool true) hdir hsel hpan rfl (by kernel_rfl) (by kernel_rfl) (by kernel_rfl) (Or.inl ⟨by rfl, fun w hw => by rfl⟩) (by assumption) ?_
  try simp only [Act.put, List.setIfInBounds_toArray, List.set_cons_zero, List.set_cons_succ]
  refine wpHB_take (i := 33) (oi := ⟨some 116, _, _, _, _, _⟩) hdir hsel hpan rfl (by kernel_rfl) (by kernel_rfl) (by kernel_rfl) (Or.inl ⟨by rfl, fun _ _ => by rfl⟩) (by assumption) ?_
  try simp only [Act.put, List.setIfInBounds_toArray, List.set_cons_zero, List.set_cons_succ]
  refine wpHB_take (i := 34) (oi := ⟨some 117, _, _, _, _, _⟩) hdir hsel hpan rfl (by kernel_rfl) (by kernel_rfl) (by kernel_rfl) (Or.inl ⟨by rfl, fun _ _ => by rfl⟩) (by assumption) ?_
  try simp only [Act.put, List.setIfInBounds_toArray, List.set_cons_zero, List.set_cons_succ]
  refine wpHB_take (i := 35) (oi := ⟨some 118, _, _, _, _, _⟩) (v := .bool true) hdir hsel hpan rfl (by kernel_rfl) (by kernel_rfl) (by kernel_rfl) (Or.inl ⟨by rfl, fun w hw => by rfl⟩) (by assumption) ?_
  try simp only [Act.put, List.setIfInBounds_toArray, List.set_cons_zero, List.set_cons_succ]
  refine wpHB_take (i := 36) (oi := ⟨some 119, _, _, _, _, _⟩) (v := .bool true) hdir hsel hpan rfl (by kernel_rfl) (by kernel_rfl) (by kernel_rfl) (Or.inl ⟨by rfl, fun w hw => by rfl⟩) (by assumption) ?_
  try simp only [Act.put, List.setIfInBounds_toArray, List.set_cons_zero, List.set_cons_succ]
  refine wpHB_take (i := 37) (oi := ⟨some 120, _, _, _, _, _⟩) hdir hsel hpan rfl (by kernel_rfl) (by kernel_rfl) (by kernel_rfl) (Or.inl ⟨by rfl, fun _ _ => by rfl⟩) (by assumption) ?_
  try simp only [Act.put, List.setIfInBounds_toArray, List.set_cons_zero, List.set_cons_succ]
  refine wpHB_take (i := 38) (oi := ⟨some 121, _, _, _, _, _⟩) hdir hsel hpan rfl (by kernel_rfl) (by kernel_rfl) (by kernel_rfl) (yieldsIf_arr (by rfl) 36 _ rfl _ rfl 36 _ (fun w hw => GP9.out.then_ hw.out) Try.underlying36 (by kernel_rfl)) (by assumption) ?_
  try simp only [Act.put, List.setIfInBounds_toArray, List.set_cons_zero, List.set_cons_succ]
  refine wpHB_take (i := 39) (oi := ⟨some 122, _, _, _, _, _⟩) (v := .agg (pairA 1 0)) hdir hsel hpan rfl (by kernel_rfl) (by kernel_rfl) (by kernel_rfl) (Or.inl ⟨by rfl, fun w hw => by kernel_rfl⟩) (by assumption) ?_
  try simp only [Act.put, List.setIfInBounds_toArray, List.set_cons_zero, List.set_cons_succ]
  refine wpHB_take (i := 40) (oi := ⟨some 123, _, _, _, _, _⟩) (v := .bool true) hdir hsel hpan rfl (by kernel_rfl) (by kernel_rfl) (by kernel_rfl) (Or.inl ⟨by rfl, fun w hw => by kernel_rfl⟩) (by assumption) ?_
  try simp only [Act.put, List.setIfInBounds_toArray, List.set_cons_zero, List.set_cons_succ]
  refine wpHB_take (i := 41) (oi := ⟨some 124, _, _, _, _, _⟩) (v := .bool true) hdir hsel hpan rfl (by kernel_rfl) (by kernel_rfl) (by kernel_rfl) (Or.inl ⟨by rfl, fun w hw => by rfl⟩) (by assumption) ?_
  try simp only [Act.put, List.setIfInBounds_toArray, List.set_cons_zero, List.set_cons_succ]
  refine wpHB_tail (by kernel_rfl) (by kernel_rfl) ?_
  clear hdir hsel hpan
  simp only [opsAt, List.getElem?_toArray, List.getElem?_cons_succ, List.getElem?_cons_zero, Option.toList_some, List.cons_append, List.nil_append]
  go_wp2
  exact hdone.out _ _ _ _ _ _ _ _ _ _ _ _ _ _ _ _ _ _ _ _ _ _ _ _ _ _ _ _ _ _ _ _ _ _ _ _ _ _ _ _ _ _ _ _ ⟨rfl, hHeld.out⟩
end Go.Proofs.Ytcplneglfbdooaa
/- The walk of region 13 of the law's head. -/
namespace Go.Proofs.Ytcplneglfbdooaa
open Go.RowKit

set_option maxRecDepth 100000 in
set_option maxHeartbeats 6400000 in
theorem head_r13 {Q : Exit → Act → World → Prop} (hQ : PanOk Q) (m : Cm) (bc b4 b5 : Nat) (p5 : Pm) (w13 : World) {x0 x6 x7 x8 x9 x10 x11 x12 x13 x14 x15 x16 x17 x18 x19 x22 x23 x24 x25 x26 x27 x28 x29 x30 x31 x32 x33 x34 x35 x36 x37 x38 x39 x40 x41 x42 x43 x44 x45 x46 x47 x48 x49 x50 x51 x52 x53 x54 x55 x56 x57 x58 x59 x60 x61 x62 x63 x64 x65 x66 x67 x68 x69 x70 x71 x72 x73 x74 x75 x76 x77 x78 x79 x80 x81 x82 x83 x84 x85 x86 x87 x88 x89 x90 x91 x92 x93 x94 x95 x96 x97 x98 x99 x100 x101 x102 x103 x104 x105 x106 x107 x108 x109 x110 x111 x112 x113 x114 x115 x116 x117 x118 x119 x120 x121 x122 x123 x124 x125 x126 x127 x128 x129 x130 x131 x132 x133 x134 x135 x136 x137 x138 x139 x140 x141 x142 x143 x144 x145 x146 x147 x148 x149 x150 x151 x152 x153 x154 x155 x156 x157 x158 x159 x160 x161 x162 x163 x164 x165 x166 x167 x168 x169 x170 x171 x172 x173 x174 x175 x176 x177 x178 x179 x180 x181 x182 x183 x184 x185 x186 x187 x188 x189 : Value} (GC : Hid (Blk w13 bc 27 (coA Con.ex m))) (G4 : Hid (Blk w13 b4 49 (pL (Pat.plus 7) ⟨none, 0, none, 0⟩))) (G5 : Hid (Blk w13 b5 49 (pL (Pat.repl 0 5) p5))) (HCO : Hid (Cont w13 Con.ex m)) (HP5 : Hid (PatM w13 (Pat.repl 0 5) p5)) (HP4 : Hid (PatM w13 (Pat.plus 7) ⟨none, 0, none, 0⟩))
    (hdone : Hid (∀ (v0 v148 v149 v150 v151 v152 v153 v154 v155 v156 v157 v158 v159 v160 v161 v162 v163 v164 v165 v166 v167 v168 v169 v170 v171 v172 v173 v174 v175 v176 v177 v178 v179 v180 v181 v182 v183 v184 v185 v186 v187 v188 v189 : Value) (W : World), (v0 = .bool true ∧ Below w13.heap.size w13 W) → Q .normal ⟨#[v0, .pointer (some ⟨bc, 0, none⟩), .func (.func 22) #[] #[], .func (.func 23) #[] #[], .pointer (some ⟨b4, 0, none⟩), .pointer (some ⟨b5, 0, none⟩), x6, x7, x8, x9, x10, x11, x12, x13, x14, x15, x16, x17, x18, x19, .bool true, .bool true, x22, x23, x24, x25, x26, x27, x28, x29, x30, x31, x32, x33, x34, x35, x36, x37, x38, x39, x40, x41, x42, x43, x44, x45, x46, x47, x48, x49, x50, x51, x52, x53, x54, x55, x56, x57, x58, x59, x60, x61, x62, x63, x64, x65, x66, x67, x68, x69, x70, x71, x72, x73, x74, x75, x76, x77, x78, x79, x80, x81, x82, x83, x84, x85, x86, x87, x88, x89, x90, x91, x92, x93, x94, x95, x96, x97, x98, x99, x100, x101, x102, x103, x104, x105, x106, x107, x108, x109, x110, x111, x112, x113, x114, x115, x116, x117, x118, x119, x120, x121, x122, x123, x124, x125, x126, x127, x128, x129, x130, x131, x132, x133, x134, x135, x136, x137, x138, x139, x140, x141, x142, x143, x144, x145, x146, x147, v148, v149, v150, v151, v152, v153, v154, v155, v156, v157, v158, v159, v160, v161, v162, v163, v164, v165, v166, v167, v168, v169, v170, v171, v172, v173, v174, v175, v176, v177, v178, v179, v180, v181, v182, v183, v184, v185, v186, v187, v188, v189], []⟩ W)) :
    (atR Try.f9 13).wp Try.prog Q ⟨#[x0, .pointer (some ⟨bc, 0, none⟩), .func (.func 22) #[] #[], .func (.func 23) #[] #[], .pointer (some ⟨b4, 0, none⟩), .pointer (some ⟨b5, 0, none⟩), x6, x7, x8, x9, x10, x11, x12, x13, x14, x15, x16, x17, x18, x19, .bool true, .bool true, x22, x23, x24, x25, x26, x27, x28, x29, x30, x31, x32, x33, x34, x35, x36, x37, x38, x39, x40, x41, x42, x43, x44, x45, x46, x47, x48, x49, x50, x51, x52, x53, x54, x55, x56, x57, x58, x59, x60, x61, x62, x63, x64, x65, x66, x67, x68, x69, x70, x71, x72, x73, x74, x75, x76, x77, x78, x79, x80, x81, x82, x83, x84, x85, x86, x87, x88, x89, x90, x91, x92, x93, x94, x95, x96, x97, x98, x99, x100, x101, x102, x103, x104, x105, x106, x107, x108, x109, x110, x111, x112, x113, x114, x115, x116, x117, x118, x119, x120, x121, x122, x123, x124, x125, x126, x127, x128, x129, x130, x131, x132, x133, x134, x135, x136, x137, x138, x139, x140, x141, x142, x143, x144, x145, x146, x147, x148, x149, x150, x151, x152, x153, x154, x155, x156, x157, x158, x159, x160, x161, x162, x163, x164, x165, x166, x167, x168, x169, x170, x171, x172, x173, x174, x175, x176, x177, x178, x179, x180, x181, x182, x183, x184, x185, x186, x187, x188, x189], []⟩ w13 := by
  conv => { arg 2; whnf }
  have HW := Lib.hid (fun i W => lwaive_any i W)
  have HS := Lib.hid (fun i d W => lspan_any i d W)
  refine wp_region_hb (fun w' => Hid (Below w13.heap.size w13 w')) [0, 1, 2, 3, 4, 5, 6, 7, 8, 9, 10, 11, 12, 13, 14, 15, 16, 17, 18, 19, 20, 21, 22, 23, 24, 25, 26, 27, 28, 29, 30, 31, 32, 33, 34, 35, 36, 37, 38, 39, 40, 41] [42] (by kernel_rfl) (by kernel_rfl) hQ (Lib.hid (Below.drew (Below.refl _ _))) (fun hdir hsel hpan hHeld => ?_)
  refine wpHB_take (i := 0) (oi := ⟨some 148, _, _, _, _, _⟩) hdir hsel hpan rfl (by kernel_rfl) (by kernel_rfl) (by kernel_rfl) (Or.inl ⟨by rfl, fun _ _ => by rfl⟩) (by assumption) ?_
  try simp only [Act.put, List.setIfInBounds_toArray, List.set_cons_zero, List.set_cons_succ]
  refine wpHB_take (i := 1) (oi := ⟨some 149, _, _, _, _, _⟩) hdir hsel hpan rfl (by kernel_rfl) (by kernel_rfl) (by kernel_rfl) (Or.inl ⟨by rfl, fun _ _ => by rfl⟩) (by assumption) ?_
  try simp only [Act.put, List.setIfInBounds_toArray, List.set_cons_zero, List.set_cons_succ]
  refine wpHB_take (i := 2) (oi := ⟨some 150, _, _, _, _, _⟩) hdir hsel hpan rfl (by kernel_rfl) (by kernel_rfl) (by kernel_rfl) (Or.inl ⟨by rfl, fun _ _ => by rfl⟩) (by assumption) ?_
  try simp only [Act.put, List.setIfInBounds_toArray, List.set_cons_zero, List.set_cons_succ]
  refine wpHB_take (i := 3) (oi := ⟨some 151, _, _, _, _, _⟩) (v := .bool true) hdir hsel hpan rfl (by kernel_rfl) (by kernel_rfl) (by kernel_rfl) (Or.inl ⟨by rfl, fun w hw => by rfl⟩) (by assumption) ?_
  try simp only [Act.put, List.setIfInBounds_toArray, List.set_cons_zero, List.set_cons_succ]
  refine wpHB_take (i := 4) (oi := ⟨some 152, _, _, _, _, _⟩) hdir hsel hpan rfl (by kernel_rfl) (by kernel_rfl) (by kernel_rfl) (Or.inl ⟨by rfl, fun _ _ => by rfl⟩) (by assumption) ?_
  try simp only [Act.put, List.setIfInBounds_toArray, List.set_cons_zero, List.set_cons_succ]
  refine wpHB_take (i := 5) (oi := ⟨some 153, _, _, _, _, _⟩) hdir hsel hpan rfl (by kernel_rfl) (by kernel_rfl) (by kernel_rfl) (yieldsIf_row (by rfl) 27 _ rfl bc rfl 27 _ (fun w hw => (GC.out.then_ hw.out)) ⟨_, Try.underlying27⟩ (by kernel_rfl)) (by assumption) ?_
  try simp only [Act.put, List.setIfInBounds_toArray, List.set_cons_zero, List.set_cons_succ]
  refine wpHB_take (i := 6) (oi := ⟨some 154, _, _, _, _, _⟩) hdir hsel hpan rfl (by kernel_rfl) (by kernel_rfl) (by kernel_rfl) (yieldsIf_row (by rfl) 49 _ rfl b4 rfl 49 _ (fun w hw => (G4.out.then_ hw.out)) ⟨_, Try.underlying49⟩ (by kernel_rfl)) (by assumption) ?_
  try simp only [Act.put, List.setIfInBounds_toArray, List.set_cons_zero, List.set_cons_succ]
  refine wpHB_take (i := 7) (oi := ⟨some 155, _, _, _, _, _⟩) hdir hsel hpan rfl (by kernel_rfl) (by kernel_rfl) (by kernel_rfl) (yieldsIf_row (by rfl) 49 _ rfl b4 rfl 49 _ (fun w hw => (G4.out.then_ hw.out)) ⟨_, Try.underlying49⟩ (by kernel_rfl)) (by assumption) ?_
  try simp only [Act.put, List.setIfInBounds_toArray, List.set_cons_zero, List.set_cons_succ]
  refine wpHB_ready (rs := [8]) (by kernel_rfl) (by simp) ?_
  refine AllHB.cons (by kernel_rfl) (o := ⟨some 156, _, _, _, _, _⟩) rfl (fun K hK => ?_) AllHB.nil
  rw [if_pos (by rfl)]
  go_simp
  (go_at_call 18; (with_reducible refine (com_at Con.ex m (Pat.plus 7) (Pat.plus 7) ⟨none, 0, none, 0⟩ ⟨none, 0, none, 0⟩ _ true (HCO.out.then_ hHeld.out) (HP4.out.then_ hHeld.out) (HP4.out.then_ hHeld.out) exC1).mono ?_); rintro e wa ⟨rfl, hba⟩)
  refine hK.out _ _ (Lib.hid (below_then hHeld.out hba)) (fun hHeld2 => ?_)
  clear hK K hHeld
  have hHeld := hHeld2
  clear hHeld2
  try simp only [Act.put, List.setIfInBounds_toArray, List.set_cons_zero, List.set_cons_succ]
  refine wpHB_take (i := 9) (oi := ⟨some 157, _, _, _, _, _⟩) (v := .bool true) hdir hsel hpan rfl (by kernel_rfl) (by kernel_rfl) (by kernel_rfl) (Or.inl ⟨by rfl, fun w hw => by rfl⟩) (by assumption) ?_
  try simp only [Act.put, List.setIfInBounds_toArray, List.set_cons_zero, List.set_cons_succ]
  refine wpHB_take (i := 10) (oi := ⟨some 158, _, _, _, _, _⟩) hdir hsel hpan rfl (by kernel_rfl) (by kernel_rfl) (by kernel_rfl) (Or.inl ⟨by rfl, fun _ _ => by rfl⟩) (by assumption) ?_
  try simp only [Act.put, List.setIfInBounds_toArray, List.set_cons_zero, List.set_cons_succ]
  refine wpHB_take (i := 11) (oi := ⟨some 159, _, _, _, _, _⟩) hdir hsel hpan rfl (by kernel_rfl) (by kernel_rfl) (by kernel_rfl) (yieldsIf_row (by rfl) 27 _ rfl bc rfl 27 _ (fun w hw => (GC.out.then_ hw.out)) ⟨_, Try.underlying27⟩ (by kernel_rfl)) (by assumption) ?_
  try simp only [Act.put, List.setIfInBounds_toArray, List.set_cons_zero, List.set_cons_succ]
  refine wpHB_take (i := 12) (oi := ⟨some 160, _, _, _, _, _⟩) (v := .func (.func 22) #[] #[]) hdir hsel hpan rfl (by kernel_rfl) (by kernel_rfl) (by kernel_rfl) (Or.inl ⟨by rfl, fun w hw => by rfl⟩) (by assumption) ?_
  try simp only [Act.put, List.setIfInBounds_toArray, List.set_cons_zero, List.set_cons_succ]
  refine wpHB_take (i := 14) (oi := ⟨some 162, _, _, _, _, _⟩) (v := .func (.func 23) #[] #[]) hdir hsel hpan rfl (by kernel_rfl) (by kernel_rfl) (by kernel_rfl) (Or.inl ⟨by rfl, fun w hw => by rfl⟩) (by assumption) ?_
  try simp only [Act.put, List.setIfInBounds_toArray, List.set_cons_zero, List.set_cons_succ]
  refine wpHB_ready (rs := [13]) (by kernel_rfl) (by simp) ?_
  refine AllHB.cons (by kernel_rfl) (o := ⟨some 161, _, _, _, _, _⟩) rfl (fun K hK => ?_) AllHB.nil
  rw [if_pos (by rfl)]
  go_simp
  (go_at_call 22; (with_reducible refine (HW.out _ _).mono ?_); rintro e wb ⟨⟨pmb, rfl, hpb, _⟩, hbb⟩)
  refine hK.out _ _ (Lib.hid (below_then hHeld.out hbb)) (fun hHeld2 => ?_)
  clear hK K hHeld
  have hHeld := hHeld2
  clear hHeld2
  try simp only [Act.put, List.setIfInBounds_toArray, List.set_cons_zero, List.set_cons_succ]
  refine wpHB_ready (rs := [15]) (by kernel_rfl) (by simp) ?_
  refine AllHB.cons (by kernel_rfl) (o := ⟨some 163, _, _, _, _, _⟩) rfl (fun K hK => ?_) AllHB.nil
  rw [if_pos (by rfl)]
  go_simp
  (go_at_call 23; (with_reducible refine (HS.out _ _ _).mono ?_); rintro e wd ⟨⟨pmd, rfl, hpd, _⟩, hbd⟩)
  refine hK.out _ _ (Lib.hid (below_then hHeld.out hbd)) (fun hHeld2 => ?_)
  clear hK K hHeld
  have hHeld := hHeld2
  clear hHeld2
  try simp only [Act.put, List.setIfInBounds_toArray, List.set_cons_zero, List.set_cons_succ]
  refine wpHB_ready (rs := [16]) (by kernel_rfl) (by simp) ?_
  refine AllHB.cons (by kernel_rfl) (o := ⟨some 164, _, _, _, _, _⟩) rfl (fun K hK => ?_) AllHB.nil
  rw [if_pos (by rfl)]
  go_simp
  (go_at_call 18; (with_reducible refine (com_at Con.ex m (Pat.waive 0) (Pat.span 0 9) pmb pmd _ true (HCO.out.then_ hHeld.out) (hpb.then_ hbd) (hpd.then_ (Below.refl _ _)) exC2).mono ?_); rintro e we ⟨rfl, hbe⟩)
  refine hK.out _ _ (Lib.hid (below_then hHeld.out hbe)) (fun hHeld2 => ?_)
  clear hK K hHeld
  have hHeld := hHeld2
  clear hHeld2
  try simp only [Act.put, List.setIfInBounds_toArray, List.set_cons_zero, List.set_cons_succ]
  refine wpHB_take (i := 17) (oi := ⟨some 165, _, _, _, _, _⟩) (v := .bool true) hdir hsel hpan rfl (by kernel_rfl) (by kernel_rfl) (by kernel_rfl) (Or.inl ⟨by rfl, fun w hw => by rfl⟩) (by assumption) ?_
  try simp only [Act.put, List.setIfInBounds_toArray, List.set_cons_zero, List.set_cons_succ]
  refine wpHB_take (i := 18) (oi := ⟨some 166, _, _, _, _, _⟩) hdir hsel hpan rfl (by kernel_rfl) (by kernel_rfl) (by kernel_rfl) (Or.inl ⟨by rfl, fun _ _ => by rfl⟩) (by assumption) ?_
  try simp only [Act.put, List.setIfInBounds_toArray, List.set_cons_zero, List.set_cons_succ]
  refine wpHB_take (i := 19) (oi := ⟨some 167, _, _, _, _, _⟩) hdir hsel hpan rfl (by kernel_rfl) (by kernel_rfl) (by kernel_rfl) (yieldsIf_row (by rfl) 27 _ rfl bc rfl 27 _ (fun w hw => (GC.out.then_ hw.out)) ⟨_, Try.underlying27⟩ (by kernel_rfl)) (by assumption) ?_
  try simp only [Act.put, List.setIfInBounds_toArray, List.set_cons_zero, List.set_cons_succ]
  refine wpHB_take (i := 20) (oi := ⟨some 168, _, _, _, _, _⟩) hdir hsel hpan rfl (by kernel_rfl) (by kernel_rfl) (by kernel_rfl) (yieldsIf_row (by rfl) 49 _ rfl b5 rfl 49 _ (fun w hw => (G5.out.then_ hw.out)) ⟨_, Try.underlying49⟩ (by kernel_rfl)) (by assumption) ?_
  try simp only [Act.put, List.setIfInBounds_toArray, List.set_cons_zero, List.set_cons_succ]
  refine wpHB_take (i := 21) (oi := ⟨some 169, _, _, _, _, _⟩) (v := .func (.func 23) #[] #[]) hdir hsel hpan rfl (by kernel_rfl) (by kernel_rfl) (by kernel_rfl) (Or.inl ⟨by rfl, fun w hw => by rfl⟩) (by assumption) ?_
  try simp only [Act.put, List.setIfInBounds_toArray, List.set_cons_zero, List.set_cons_succ]
  refine wpHB_ready (rs := [22]) (by kernel_rfl) (by simp) ?_
  refine AllHB.cons (by kernel_rfl) (o := ⟨some 170, _, _, _, _, _⟩) rfl (fun K hK => ?_) AllHB.nil
  rw [if_pos (by rfl)]
  go_simp
  (go_at_call 23; (with_reducible refine (HS.out _ _ _).mono ?_); rintro e wf ⟨⟨pmf, rfl, hpf, _⟩, hbf⟩)
  refine hK.out _ _ (Lib.hid (below_then hHeld.out hbf)) (fun hHeld2 => ?_)
  clear hK K hHeld
  have hHeld := hHeld2
  clear hHeld2
  try simp only [Act.put, List.setIfInBounds_toArray, List.set_cons_zero, List.set_cons_succ]
  refine wpHB_ready (rs := [23]) (by kernel_rfl) (by simp) ?_
  refine AllHB.cons (by kernel_rfl) (o := ⟨some 171, _, _, _, _, _⟩) rfl (fun K hK => ?_) AllHB.nil
  rw [if_pos (by rfl)]
  go_simp
  (go_at_call 18; (with_reducible refine (com_at Con.ex m (Pat.repl 0 5) (Pat.span 0 9) p5 pmf _ false (HCO.out.then_ hHeld.out) (HP5.out.then_ hHeld.out) (hpf.then_ (Below.refl _ _)) exC3).mono ?_); rintro e wg ⟨rfl, hbg⟩)
  refine hK.out _ _ (Lib.hid (below_then hHeld.out hbg)) (fun hHeld2 => ?_)
  clear hK K hHeld
  have hHeld := hHeld2
  clear hHeld2
  try simp only [Act.put, List.setIfInBounds_toArray, List.set_cons_zero, List.set_cons_succ]
  refine wpHB_take (i := 24) (oi := ⟨some 172, _, _, _, _, _⟩) (v := .bool true) hdir hsel hpan rfl (by kernel_rfl) (by kernel_rfl) (by kernel_rfl) (Or.inl ⟨by rfl, fun w hw => by rfl⟩) (by assumption) ?_
  try simp only [Act.put, List.setIfInBounds_toArray, List.set_cons_zero, List.set_cons_succ]
  refine wpHB_take (i := 25) (oi := ⟨some 173, _, _, _, _, _⟩) (v := .bool true) hdir hsel hpan rfl (by kernel_rfl) (by kernel_rfl) (by kernel_rfl) (Or.inl ⟨by rfl, fun w hw => by rfl⟩) (by assumption) ?_
  try simp only [Act.put, List.setIfInBounds_toArray, List.set_cons_zero, List.set_cons_succ]
  refine wpHB_take (i := 26) (oi := ⟨some 174, _, _, _, _, _⟩) hdir hsel hpan rfl (by kernel_rfl) (by kernel_rfl) (by kernel_rfl) (Or.inl ⟨by rfl, fun _ _ => by rfl⟩) (by assumption) ?_
  try simp only [Act.put, List.setIfInBounds_toArray, List.set_cons_zero, List.set_cons_succ]
  refine wpHB_take (i := 27) (oi := ⟨some 175, _, _, _, _, _⟩) hdir hsel hpan rfl (by kernel_rfl) (by kernel_rfl) (by kernel_rfl) (yieldsIf_row (by rfl) 27 _ rfl bc rfl 27 _ (fun w hw => (GC.out.then_ hw.out)) ⟨_, Try.underlying27⟩ (by kernel_rfl)) (by assumption) ?_
  try simp only [Act.put, List.setIfInBounds_toArray, List.set_cons_zero, List.set_cons_succ]
  refine wpHB_take (i := 28) (oi := ⟨some 176, _, _, _, _, _⟩) hdir hsel hpan rfl (by kernel_rfl) (by kernel_rfl) (by kernel_rfl) (yieldsIf_row (by rfl) 49 _ rfl b5 rfl 49 _ (fun w hw => (G5.out.then_ hw.out)) ⟨_, Try.underlying49⟩ (by kernel_rfl)) (by assumption) ?_
  try simp only [Act.put, List.setIfInBounds_toArray, List.set_cons_zero, List.set_cons_succ]
  refine wpHB_take (i := 29) (oi := ⟨some 177, _, _, _, _, _⟩) (v := .func (.func 23) #[] #[]) hdir hsel hpan rfl (by kernel_rfl) (by kernel_rfl) (by kernel_rfl) (Or.inl ⟨by rfl, fun w hw => by rfl⟩) (by assumption) ?_
  try simp only [Act.put, List.setIfInBounds_toArray, List.set_cons_zero, List.set_cons_succ]
  refine wpHB_ready (rs := [30]) (by kernel_rfl) (by simp) ?_
  refine AllHB.cons (by kernel_rfl) (o := ⟨some 178, _, _, _, _, _⟩) rfl (fun K hK => ?_) AllHB.nil
  rw [if_pos (by rfl)]
  go_simp
  (go_at_call 23; (with_reducible refine (HS.out _ _ _).mono ?_); rintro e wh ⟨⟨pmh, rfl, hph, _⟩, hbh⟩)
  refine hK.out _ _ (Lib.hid (below_then hHeld.out hbh)) (fun hHeld2 => ?_)
  clear hK K hHeld
  have hHeld := hHeld2
  clear hHeld2
  try simp only [Act.put, List.setIfInBounds_toArray, List.set_cons_zero, List.set_cons_succ]
  refine wpHB_ready (rs := [31]) (by kernel_rfl) (by simp) ?_
  refine AllHB.cons (by kernel_rfl) (o := ⟨some 179, _, _, _, _, _⟩) rfl (fun K hK => ?_) AllHB.nil
  rw [if_pos (by rfl)]
  go_simp
  (go_at_call 18; (with_reducible refine (com_at Con.ex m (Pat.repl 0 5) (Pat.span 0 5) p5 pmh _ true (HCO.out.then_ hHeld.out) (HP5.out.then_ hHeld.out) (hph.then_ (Below.refl _ _)) exC4).mono ?_); rintro e wi ⟨rfl, hbi⟩)
  refine hK.out _ _ (Lib.hid (below_then hHeld.out hbi)) (fun hHeld2 => ?_)
  clear hK K hHeld
  have hHeld := hHeld2
  clear hHeld2
  try simp only [Act.put, List.setIfInBounds_toArray, List.set_cons_zero, List.set_cons_succ]
  refine wpHB_take (i := 32) (oi := ⟨some 180, _, _, _, _, _⟩) (v := .bool true) hdir hsel hpan rfl (by kernel_rfl) (by kernel_rfl) (by kernel_rfl) (Or.inl ⟨by rfl, fun w hw => by rfl⟩) (by assumption) ?_
  try simp only [Act.put, List.setIfInBounds_toArray, List.set_cons_zero, List.set_cons_succ]
  refine wpHB_take (i := 33) (oi := ⟨some 181, _, _, _, _, _⟩) hdir hsel hpan rfl (by kernel_rfl) (by kernel_rfl) (by kernel_rfl) (Or.inl ⟨by rfl, fun _ _ => by rfl⟩) (by assumption) ?_
  try simp only [Act.put, List.setIfInBounds_toArray, List.set_cons_zero, List.set_cons_succ]
  refine wpHB_take (i := 34) (oi := ⟨some 182, _, _, _, _, _⟩) hdir hsel hpan rfl (by kernel_rfl) (by kernel_rfl) (by kernel_rfl) (yieldsIf_row (by rfl) 27 _ rfl bc rfl 27 _ (fun w hw => (GC.out.then_ hw.out)) ⟨_, Try.underlying27⟩ (by kernel_rfl)) (by assumption) ?_
  try simp only [Act.put, List.setIfInBounds_toArray, List.set_cons_zero, List.set_cons_succ]
  refine wpHB_take (i := 35) (oi := ⟨some 183, _, _, _, _, _⟩) (v := .func (.func 22) #[] #[]) hdir hsel hpan rfl (by kernel_rfl) (by kernel_rfl) (by kernel_rfl) (Or.inl ⟨by rfl, fun w hw => by rfl⟩) (by assumption) ?_
  try simp only [Act.put, List.setIfInBounds_toArray, List.set_cons_zero, List.set_cons_succ]
  refine wpHB_take (i := 37) (oi := ⟨some 185, _, _, _, _, _⟩) (v := .func (.func 22) #[] #[]) hdir hsel hpan rfl (by kernel_rfl) (by kernel_rfl) (by kernel_rfl) (Or.inl ⟨by rfl, fun w hw => by rfl⟩) (by assumption) ?_
  try simp only [Act.put, List.setIfInBounds_toArray, List.set_cons_zero, List.set_cons_succ]
  refine wpHB_ready (rs := [36]) (by kernel_rfl) (by simp) ?_
  refine AllHB.cons (by kernel_rfl) (o := ⟨some 184, _, _, _, _, _⟩) rfl (fun K hK => ?_) AllHB.nil
  rw [if_pos (by rfl)]
  go_simp
  (go_at_call 22; (with_reducible refine (HW.out _ _).mono ?_); rintro e wj ⟨⟨pmj, rfl, hpj, _⟩, hbj⟩)
  refine hK.out _ _ (Lib.hid (below_then hHeld.out hbj)) (fun hHeld2 => ?_)
  clear hK K hHeld
  have hHeld := hHeld2
  clear hHeld2
  try simp only [Act.put, List.setIfInBounds_toArray, List.set_cons_zero, List.set_cons_succ]
  refine wpHB_ready (rs := [38]) (by kernel_rfl) (by simp) ?_
  refine AllHB.cons (by kernel_rfl) (o := ⟨some 186, _, _, _, _, _⟩) rfl (fun K hK => ?_) AllHB.nil
  rw [if_pos (by rfl)]
  go_simp
  (go_at_call 22; (with_reducible refine (HW.out _ _).mono ?_); rintro e wk ⟨⟨pmk, rfl, hpk, _⟩, hbk⟩)
  refine hK.out _ _ (Lib.hid (below_then hHeld.out hbk)) (fun hHeld2 => ?_)
  clear hK K hHeld
  have hHeld := hHeld2
  clear hHeld2
  try simp only [Act.put, List.setIfInBounds_toArray, List.set_cons_zero, List.set_cons_succ]
  refine wpHB_ready (rs := [39]) (by kernel_rfl) (by simp) ?_
  refine AllHB.cons (by kernel_rfl) (o := ⟨some 187, _, _, _, _, _⟩) rfl (fun K hK => ?_) AllHB.nil
  rw [if_pos (by rfl)]
  go_simp
  (go_at_call 18; (with_reducible refine (com_at Con.ex m (Pat.waive 2) (Pat.waive 2) pmj pmk _ false (HCO.out.then_ hHeld.out) (hpj.then_ hbk) (hpk.then_ (Below.refl _ _)) exC5).mono ?_); rintro e wl ⟨rfl, hbl⟩)
  refine hK.out _ _ (Lib.hid (below_then hHeld.out hbl)) (fun hHeld2 => ?_)
  clear hK K hHeld
  have hHeld := hHeld2
  clear hHeld2
  try simp only [Act.put, List.setIfInBounds_toArray, List.set_cons_zero, List.set_cons_succ]
  refine wpHB_take (i := 40) (oi := ⟨some 188, _, _, _, _, _⟩) (v := .bool true) hdir hsel hpan rfl (by kernel_rfl) (by kernel_rfl) (by kernel_rfl) (Or.inl ⟨by rfl, fun w hw => by rfl⟩) (by assumption) ?_
  try simp only [Act.put, List.setIfInBounds_toArray, List.set_cons_zero, List.set_cons_succ]
  refine wpHB_take (i := 41) (oi := ⟨some 189, _, _, _, _, _⟩) (v := .bool true) hdir hsel hpan rfl (by kernel_rfl) (by kernel_rfl) (by kernel_rfl) (Or.inl ⟨by rfl, fun w hw => by rfl⟩) (by assumption) ?_
  try simp only [Act.put, List.setIfInBounds_toArray, List.set_cons_zero, List.set_cons_succ]
  refine wpHB_tail (by kernel_rfl) (by kernel_rfl) ?_
  clear hdir hsel hpan
  simp only [opsAt, List.getElem?_toArray, List.getElem?_cons_succ, List.getElem?_cons_zero, Option.toList_some, List.cons_append, List.nil_append]
  go_wp2
  exact hdone.out _ _ _ _ _ _ _ _ _ _ _ _ _ _ _ _ _ _ _ _ _ _ _ _ _ _ _ _ _ _ _ _ _ _ _ _ _ _ _ _ _ _ _ _ ⟨rfl, hHeld.out⟩
end Go.Proofs.Ytcplneglfbdooaa
