/- Contracts of functions and plain laws, joined: Ps3, Opq, Kbo, Krh, Kri. -/
import Derived.Test.YtplommmegkdhdaaGreatDoorMb25
import Derived.Test.YtplommmegkdhdaaGreatDoorRows
import Derived.Test.YtplommmegkdhdaaGreatDoorChecked
import Derived.Test.YtplommmegkdhdaaGreatDoorMb19
import Derived.ProofKit
import Derived.Deep.Slices
import Derived.Deep.Strs
import Derived.Below
import Derived.ChangeSame
import Derived.Carry
import Derived.OpenShut
import Derived.SizedLaws
import Derived.LaidMore
import Derived.Lay
import Derived.Stop.Joined
import Derived.Test.YtplommmegkdhdaaGreatDoorMb23
/- The walk of the law's head. -/
namespace Go.Proofs.YtplommmegkdhdaaGreatDoor
open Go.RowKit

set_option maxRecDepth 100000 in
set_option maxHeartbeats 12800000 in
theorem head_any (w : World) (hL : Lw w) : Calls Tryz.prog 9 #[] w fun e w' => e = .returned (.bool true) ∧ Below w.heap.size w w' := by
  have HSA := Lib.hid (fun W => sample_any W)
  have HL := Lib.hid hL
  clear hL
  go_enter Tryz.func9, Tryz.ntmps9
  go_upto_region 1 with (fail)
  refine name_wp ?_
  intro X0 hX
  have HB0 : Below w.heap.size w X0 := by rw [hX]; (repeat (first | with_reducible assumption | with_reducible exact Below.refl _ _ | with_reducible refine below_drewN ?_ _ | with_reducible refine Below.drew ?_ | with_reducible refine below_alloc ?_ _ | with_reducible refine Below.setCell ?_ (by first | omega | (simp; done) | (simp; omega)) _ | with_reducible refine below_then ?_ (by with_reducible assumption) | (refine below_then (a := World.drew _) ?_ (by with_reducible assumption))))
  clear hX
  go_upto_region 2 with (first | (go_at_call 19; (with_reducible refine (HSA.out _).mono ?_); rintro e w1 ⟨⟨m, rfl, hc0, _⟩, hbw1⟩) | (refine wpList_store_all rfl 27 _ _ rfl w1.heap.size 27 [] coZ.toList [] (coA Con.sam m).toList rfl rfl (Blk.new _ _ _) rfl (by kernel_rfl) (by simp [Value.oneCell']) ?_; intro u1 gbu1 Uu1))
  have hsu1 : Below w1.heap.size w1 u1 := (wa1 _ _).trans (Uu1.b _ (Nat.le_refl _))
  have HH1 := below_then hbw1 hsu1
  have HB1 := below_then HB0 HH1
  clear HB0 HH1
  have hc := hc0.then_ hsu1
  obtain ⟨bu1, ebu1⟩ : ∃ b, w1.heap.size = b := ⟨_, rfl⟩
  rw [ebu1] at gbu1 ⊢
  clear ebu1 Uu1 hsu1 hbw1 hc0
  go_upto_region 3 with ((refine wpList_store_all rfl 34 _ _ rfl (u1.heap.size + 1) 34 [] paZ.toList [] (pL Pat.sp ⟨some ⟨u1.heap.size, 0, none⟩, 2, none, 0⟩).toList rfl rfl (blk_at (by simp)) rfl (by kernel_rfl) (by simp [Value.oneCell']) ?_; intro X2 gbs U2))
  have gbl : Blk X2 u1.heap.size 3 #[.int .i64 0, .int .i64 2] := ((Blk.new u1 _ _).alloc _).upd U2 (by omega)
  have hbX2 : Below u1.heap.size u1 X2 := (((Below.refl _ u1).alloc (Nat.le_refl _) _).alloc (by simp) _).trans (U2.b _ (by omega))
  clear U2
  obtain ⟨bs, ebs⟩ : ∃ b, u1.heap.size + 1 = b := ⟨_, rfl⟩
  rw [ebs] at gbs ⊢
  obtain ⟨bl, ebl⟩ : ∃ b, u1.heap.size = b := ⟨_, rfl⟩
  rw [ebl] at gbl gbs ⊢
  clear ebl ebs
  have HH2 := hbX2
  have HB2 := below_then HB1 HH2
  have gbu1_2 := gbu1.then_ HH2
  have hc_2 := hc.then_ HH2
  clear gbu1 hc HB1 HH2
  have hsp : PatM X2 .sp ⟨some ⟨bl, 0, none⟩, 2, none, 0⟩ := ⟨seg_blk (xs := [0, 2]) eI_len gbl, (by show 2 ≤ 1000000; decide), Nat.le_refl _, kok_nul _⟩
  obtain ⟨pm, epm⟩ : ∃ pm : Pm, (⟨some ⟨bl, 0, none⟩, 2, none, 0⟩ : Pm) = pm := ⟨_, rfl⟩
  rw [epm] at hsp gbs
  clear epm gbl
  obtain ⟨X, rfl⟩ : ∃ W, W = X2 := ⟨_, rfl⟩
  go_upto_region 3 with (fail)
  refine head24_r3 m pm bu1 bs X (Lib.hid gbu1_2) (Lib.hid hc_2) (Lib.hid gbs) (Lib.hid hsp) (Lib.hid ?_)
  intro v3 v4 v19 v20 v21 v22 v23 v24 wc hcut
  dsimp only [Exit.then]
  obtain ⟨b3, ma, rfl, rfl, gb3, hca, hbc⟩ := hcut
  obtain ⟨W3, rfl⟩ : ∃ W, W = wc := ⟨_, rfl⟩
  have HH3 := hbc
  have HB3 := below_then HB2 HH3
  have gbu1_3 := gbu1_2.then_ HH3
  have hc_3 := hc_2.then_ HH3
  have gbs_3 := gbs.then_ HH3
  have hsp_3 := hsp.then_ HH3
  clear gbu1_2 hc_2 gbs hsp HB2 HH3
  go_upto_region 4 with (fail)
  refine head24_r4 m bu1 W3 (Lib.hid gbu1_3) (Lib.hid hc_3) (Lib.hid ?_)
  intro v5 v6 v25 v26 v27 v28 v29 v30 v31 wc hcut
  dsimp only [Exit.then]
  obtain ⟨b5, mb, rfl, rfl, gb5, hcb, hbc⟩ := hcut
  obtain ⟨W4, rfl⟩ : ∃ W, W = wc := ⟨_, rfl⟩
  have HH4 := hbc
  have HB4 := below_then HB3 HH4
  have gbu1_4 := gbu1_3.then_ HH4
  have hc_4 := hc_3.then_ HH4
  have gbs_4 := gbs_3.then_ HH4
  have hsp_4 := hsp_3.then_ HH4
  have gb3_4 := gb3.then_ HH4
  have hca_4 := hca.then_ HH4
  clear gbu1_3 hc_3 gbs_3 hsp_3 gb3 hca HB3 HH4
  go_upto_region 5 with (fail)
  refine head24_r5 m bu1 W4 (Lib.hid gbu1_4) (Lib.hid hc_4) (Lib.hid ?_)
  intro v7 v8 v32 v33 v34 v35 v36 v37 v38 wc hcut
  dsimp only [Exit.then]
  obtain ⟨b7, mz, rfl, rfl, gb7, hcz, hbc⟩ := hcut
  obtain ⟨W5, rfl⟩ : ∃ W, W = wc := ⟨_, rfl⟩
  have HH5 := hbc
  have HB5 := below_then HB4 HH5
  have gbu1_5 := gbu1_4.then_ HH5
  have hc_5 := hc_4.then_ HH5
  have gbs_5 := gbs_4.then_ HH5
  have hsp_5 := hsp_4.then_ HH5
  have gb3_5 := gb3_4.then_ HH5
  have hca_5 := hca_4.then_ HH5
  have gb5_5 := gb5.then_ HH5
  have hcb_5 := hcb.then_ HH5
  clear gbu1_4 hc_4 gbs_4 hsp_4 gb3_4 hca_4 gb5 hcb HB4 HH5
  clear gb7 hcz
  obtain ⟨kb, ko, ek, hkb, hkc⟩ := con_cells hc_5 (by decide)
  obtain ⟨x0, hx0, ex0⟩ := km_at hc_5.e (i := 0) (k := Cla.duty) rfl
  obtain ⟨x0k, x0A, x0c⟩ := x0
  simp only at ex0
  subst ex0
  have HRG : Hid (W5.rangeAt kb ko [.int .i64 1, .int .i64 0, .int .i64 0, .int .i64 1, .slice x0A 0 x0c, .int .i64 2, .int .i64 0, .bool false, .bool false, .int .i64 (-1), .int .i64 (-1), .int .i64 0, .int .i64 1, .int .i64 (-1), .int .i64 (-1), .bool false]) := fun j v hv => by have := hkc 0 _ hx0 j v hv; simpa using this
  have HEK := Lib.hid ek
  have HKB := Lib.hid hkb
  clear ek hkb hkc hx0
  go_upto_region 6 with (fail)
  refine head24_r6 (by repeat (first | with_reducible refine panOk_then ?_ | with_reducible refine panOk_block ?_ | exact panOk_body)) m bu1 kb ko x0A x0c W5 (Lib.hid gbu1_5) HEK (Lib.hid ⟨HRG.out, HKB.out⟩) (Lib.hid hc_5) (Lib.hid ?_)
  intro v9 v10 v39 v40 v41 v42 v43 v44 v45 v46 v47 v48 wc hcut
  dsimp only [Exit.then]
  obtain ⟨b9, md, rfl, rfl, gb9, _, hbc⟩ := hcut
  obtain ⟨W6, rfl⟩ : ∃ W, W = wc := ⟨_, rfl⟩
  have HH6 := hbc
  have HB6 := below_then HB5 HH6
  have gbu1_6 := gbu1_5.then_ HH6
  have hc_6 := hc_5.then_ HH6
  have gbs_6 := gbs_5.then_ HH6
  have hsp_6 := hsp_5.then_ HH6
  have gb3_6 := gb3_5.then_ HH6
  have hca_6 := hca_5.then_ HH6
  have gb5_6 := gb5_5.then_ HH6
  have hcb_6 := hcb_5.then_ HH6
  clear gbu1_5 hc_5 gbs_5 hsp_5 gb3_5 hca_5 gb5_5 hcb_5 HB5 HH6
  clear HRG HEK HKB
  go_upto_region 7 with (fail)
  refine head24_r7 m pm bu1 bs W6 (Lib.hid gbu1_6) (Lib.hid hc_6) (Lib.hid gbs_6) (Lib.hid hsp_6) (Lib.hid ?_)
  intro v11 v12 v49 v50 v51 v52 v53 v54 wc hcut
  dsimp only [Exit.then]
  obtain ⟨Al, kl, rfl, rfl, hlI, hbc⟩ := hcut
  obtain ⟨W7, rfl⟩ : ∃ W, W = wc := ⟨_, rfl⟩
  have HH7 := hbc
  have HB7 := below_then HB6 HH7
  have gbu1_7 := gbu1_6.then_ HH7
  have hc_7 := hc_6.then_ HH7
  have gbs_7 := gbs_6.then_ HH7
  have hsp_7 := hsp_6.then_ HH7
  have gb3_7 := gb3_6.then_ HH7
  have hca_7 := hca_6.then_ HH7
  have gb5_7 := gb5_6.then_ HH7
  have hcb_7 := hcb_6.then_ HH7
  have gb9_7 := gb9.then_ HH7
  clear gbu1_6 hc_6 gbs_6 hsp_6 gb3_6 hca_6 gb5_6 hcb_6 gb9 HB6 HH7
  go_upto_region 8 with (fail)
  refine head24_r8 W7 (Lib.hid (HL.out.below HB7)) (Lib.hid ?_)
  intro v13 v14 v55 v56 v57 v58 wc hcut
  dsimp only [Exit.then]
  obtain ⟨b13, pq, rfl, rfl, gb13, hpq, hbc⟩ := hcut
  obtain ⟨W8, rfl⟩ : ∃ W, W = wc := ⟨_, rfl⟩
  have HH8 := hbc
  have HB8 := below_then HB7 HH8
  have gbu1_8 := gbu1_7.then_ HH8
  have hc_8 := hc_7.then_ HH8
  have gbs_8 := gbs_7.then_ HH8
  have hsp_8 := hsp_7.then_ HH8
  have gb3_8 := gb3_7.then_ HH8
  have hca_8 := hca_7.then_ HH8
  have gb5_8 := gb5_7.then_ HH8
  have hcb_8 := hcb_7.then_ HH8
  have gb9_8 := gb9_7.then_ HH8
  have hlI_8 := hlI.then_ HH8
  clear gbu1_7 hc_7 gbs_7 hsp_7 gb3_7 hca_7 gb5_7 hcb_7 gb9_7 hlI HB7 HH8
  go_upto_region 9 with (fail)
  refine head24_r9 ma mb md b3 b5 b9 W8 (Lib.hid gb3_8) (Lib.hid gb5_8) (Lib.hid gb9_8) (Lib.hid ?_)
  intro v59 v60 v61 v62 v63 v64 v65 v66 v67 v68 v69 v70 v71 v72 v73 v74 v75 v76 v77 v78 v79 v80 v81 v82 v83 v84 v85 v86 wc hcut
  dsimp only [Exit.then]
  obtain ⟨rfl, rfl⟩ := hcut
  go_upto_region 11 with (fail)
  refine head24_r11 ma mb b3 b5 wc (Lib.hid gb3_8) (Lib.hid hca_8) (Lib.hid gb5_8) (Lib.hid hcb_8) (Lib.hid ?_)
  intro v15 v87 v88 v89 v90 v91 v92 v93 v94 v95 v96 v97 v98 v99 v100 v101 v102 v103 v104 v105 v106 v107 v108 v109 v110 v111 v112 v113 v114 v115 v116 v117 v118 v119 v120 v121 v122 v123 v124 v125 v126 v127 wd hcut
  dsimp only [Exit.then]
  obtain ⟨rfl, rfl⟩ := hcut
  go_upto_region 12 with (fail)
  refine head24_r12 pm pq bs b13 Al kl wd (Lib.hid gbs_8) (Lib.hid hsp_8) (Lib.hid gb13) (Lib.hid hpq) (Lib.hid hlI_8) (Lib.hid (HL.out.below HB8)) (Lib.hid ?_)
  intro v0 v128 v129 v130 v131 v132 v133 v134 v135 v136 v137 v138 v139 v140 v141 v142 v143 v144 v145 v146 v147 v148 v149 v150 v151 we hcut
  dsimp only [Exit.then]
  obtain ⟨rfl, hbe⟩ := hcut
  go_wp2
  go_ret
  exact ⟨rfl, below_then HB8 hbe⟩
end Go.Proofs.YtplommmegkdhdaaGreatDoor
/- Contracts and lists of patches as arguments, opened. -/
namespace Go.Proofs.YtplommmegkdhdaaGreatDoor
open Go.ChangeShapes Go.WideShapes Go.ChangeAt Go.RowKit Go.Deep

theorem Tryz.own : ownKnob Tryz.prog.godebug = none := by kernel_rfl
theorem Tryz.laidOut : laidOutB Tryz.prog = true := by kernel_rfl
theorem list_of {α : Type} {P : Nat → α → Prop} : ∀ n, (∀ i, i < n → ∃ x, P i x) → ∃ l : List α, l.length = n ∧ ∀ k x, l[k]? = some x → P k x
  | 0, _ => ⟨[], rfl, fun k x h => by simp at h⟩
  | n + 1, h => by
    obtain ⟨l, hl, hP⟩ := list_of n fun i hi => h i (by omega)
    obtain ⟨x, hx⟩ := h n (by omega)
    refine ⟨l ++ [x], by simp [hl], fun k y hy => ?_⟩
    rcases Nat.lt_or_ge k n with hk | hk
    · rw [List.getElem?_append_left (by omega)] at hy; exact hP k y hy
    · rw [List.getElem?_append_right (by omega)] at hy
      have : k = n := by
        have := (List.getElem?_eq_some_iff.1 hy).1
        simp at this; omega
      subst this
      simp [hl] at hy
      subst hy; exact hx
/-- what an opened slice gives -/
def LstM {α : Type} (w : World) (en : α → List Value) (size : Nat) (fit : α → Prop) (A : Option Addr) (l : List α) (c : Nat) : Prop := l.length ≤ c ∧ (c ≤ 9223372036854775807 ∧ (A = none → l = [] ∧ c = 0)) ∧ (∀ y ∈ l, fit y) ∧ Seg w w.heap.size size en A l
/-- a slice, opened: its elements are of 'size' cells each, which read as 'en' says -/
theorem open_lstm {α : Type} (en : α → List Value) (size : Nat) (fit : α → Prop) (he : ∀ y, (en y).length = size) (hs0 : 0 < size) {H : Type} {enc : TypeId × Value → H} {w : World} {spare : Nat → Bool} {held : Bool} {fuel : Nat} {t e : TypeId} {c : Value} {x : DataW H × List MemPlace}
    (ht : Tryz.prog.underlying t = some (.slice e)) (hc : Tryz.prog.cellsOf e = size)
    (hel : ∀ (fuel : Nat) (cs : List Value) (x : DataW H × List MemPlace), DataW.trod enc Tryz.prog w 0 spare held fuel e cs = some x → ∃ y, cs = en y ∧ fit y)
    (hf : DataW.trod enc Tryz.prog w 0 spare held fuel t [c] = some x) :
    ∃ (A : Option Addr) (l : List α) (cap : Nat), [c] = [.slice A l.length cap] ∧ LstM w en size fit A l cap := by
  rcases open_slice ht hf with ⟨h, _⟩ | ⟨a, len', cap', m, n, D, Pl, h, hb, hl, hm, hmm, hx, hi⟩
  · simp at h
    subst h
    exact ⟨none, [], 0, rfl, Nat.le_refl _, ⟨by decide, fun _ => ⟨rfl, rfl⟩⟩, by simp, Seg.nil _ _ _ _ _⟩
  · simp at h
    subst h
    have hlen : len' ≤ m := by rw [hmm]; split <;> omega
    rw [hc] at hi
    have h1 : ∀ i, i < len' → ∃ y : α, fit y ∧ ∀ j u, (en y)[j]? = some u → w.cell? (a.add (i * size + j)) = some u := by
      intro i hil
      obtain ⟨cs', hcc, htt⟩ := hi i (by omega)
      obtain ⟨y, rfl, hy⟩ := hel _ _ _ htt
      obtain ⟨_, _, hat⟩ := World.cells?_some hcc
      refine ⟨y, hy, fun j u hu => ?_⟩
      have hj : j < size := by rw [← he y]; exact (List.getElem?_eq_some_iff.1 hu).1
      rw [← add_add, hat j hj, hu]
    obtain ⟨l, hll, hP⟩ := list_of len' h1
    subst hll
    refine ⟨some a, l, cap', rfl, hl, ⟨hm, by simp⟩, fun y hy => ?_, fun k y hk => ?_⟩
    · obtain ⟨k, hk, rfl⟩ := List.getElem_of_mem hy
      exact (hP k _ (List.getElem?_eq_getElem hk)).1
    · have hcs := (hP k y hk).2
      have z0 : ∃ u, (en y)[0]? = some u := ⟨_, List.getElem?_eq_getElem (by rw [he]; exact hs0)⟩
      obtain ⟨u0, hu0⟩ := z0
      have hk1 := hcs 0 u0 hu0
      obtain ⟨b, off, spot⟩ := a
      have hs : spot = none := by
        have hk0 : 0 < l.length := by have := (List.getElem?_eq_some_iff.1 hk).1; omega
        obtain ⟨y0, hy0⟩ : ∃ y, l[0]? = some y := ⟨_, List.getElem?_eq_getElem hk0⟩
        obtain ⟨u1, hu1⟩ : ∃ u, (en y0)[0]? = some u := ⟨_, List.getElem?_eq_getElem (by rw [he]; exact hs0)⟩
        have h2 := (hP 0 y0 hy0).2 0 u1 hu1
        simpa [Addr.add] using World.cell?_spot h2
      subst hs
      have norm : ∀ q v, w.cell? ((⟨b, off, none⟩ : Addr).add q) = some v → w.cell? ⟨b, off + q, none⟩ = some v := by
        intro q v h
        unfold Addr.add at h
        split at h
        · rename_i hz; subst hz; simpa using h
        · exact h
      refine ⟨b, off, rfl, block_lt_of_cell (norm _ _ hk1), fun j u hu => ?_⟩
      have := norm _ _ (hcs j u hu)
      simpa [Nat.add_assoc] using this
section
variable {H : Type} {enc : TypeId × Value → H} {w : World} {spare : Nat → Bool} {held : Bool} {fuel : Nat} {cs : List Value} {x : DataW H × List MemPlace}
theorem trod_i64 (h : DataW.trod enc Tryz.prog w 0 spare held fuel 3 cs = some x) : ∃ n : Int, cs = [.int .i64 n] ∧ I64 n := by
  obtain ⟨n, h1, _, h3⟩ := DataW.trod_int Tryz.underlying3 h
  exact ⟨n, h1, bounds_i64 h3⟩
theorem trod_bo (h : DataW.trod enc Tryz.prog w 0 spare held fuel 4 cs = some x) : ∃ b : Bool, cs = [.bool b] := by
  obtain ⟨b, e1, _⟩ := DataW.trod_bool Tryz.underlying4 h
  exact ⟨b, e1⟩
theorem trod_str (h : DataW.trod enc Tryz.prog w 0 spare held fuel 9 cs = some x) : ∃ s : ByteArray, cs = [.string s] := by
  obtain ⟨s, e1, _⟩ := DataW.trod_string Tryz.underlying9 h
  exact ⟨s, e1⟩
theorem cz0 : Tryz.prog.cellsOf 4 = 1 := by kernel_rfl
theorem cz1 : Tryz.prog.cellsOf 3 = 1 := by kernel_rfl
theorem cz2 : Tryz.prog.cellsOf 9 = 1 := by kernel_rfl
theorem cz3 : Tryz.prog.cellsOf 30 = 2 := by kernel_rfl
set_option maxRecDepth 100000 in
theorem trod_ra (h : DataW.trod enc Tryz.prog w 0 spare held fuel 30 cs = some x) : ∃ (a : Int) (b : Int), cs = [.int .i64 a, .int .i64 b] ∧ I64 a ∧ I64 b := by
  obtain ⟨xs, fu_, _, _, hl, hxl, hf⟩ := DataW.trod_struct Tryz.underlying30 h
  have h0 : DataW.trod enc Tryz.prog w 0 spare held fu_ 3 ((cs.drop 0).take (Tryz.prog.cellsOf 3)) = xs[0]? := hf 0 _ rfl
  rw [cz1] at h0
  have h1 : DataW.trod enc Tryz.prog w 0 spare held fu_ 3 ((cs.drop 1).take (Tryz.prog.cellsOf 3)) = xs[1]? := hf 1 _ rfl
  rw [cz1] at h1
  rw [cz3] at hl
  match cs, hl, xs, hxl with
  | [u0, u1], _, [y0, y1], _ =>
    replace h0 : DataW.trod enc Tryz.prog w 0 spare held fu_ 3 [u0] = some y0 := h0
    obtain ⟨a, q0, e0_0⟩ := trod_i64 h0
    cases q0
    replace h1 : DataW.trod enc Tryz.prog w 0 spare held fu_ 3 [u1] = some y1 := h1
    obtain ⟨b, q1, e1_0⟩ := trod_i64 h1
    cases q1
    exact ⟨a, b, rfl, e0_0, e1_0⟩
theorem cz4 : Tryz.prog.cellsOf 76 = 2 := by kernel_rfl
set_option maxRecDepth 100000 in
theorem trod_co (h : DataW.trod enc Tryz.prog w 0 spare held fuel 76 cs = some x) : ∃ (a : Int) (b : Int), cs = [.int .i64 a, .int .i64 b] ∧ I64 a ∧ I64 b := by
  obtain ⟨xs, fu_, _, _, hl, hxl, hf⟩ := DataW.trod_struct Tryz.underlying76 h
  have h0 : DataW.trod enc Tryz.prog w 0 spare held fu_ 3 ((cs.drop 0).take (Tryz.prog.cellsOf 3)) = xs[0]? := hf 0 _ rfl
  rw [cz1] at h0
  have h1 : DataW.trod enc Tryz.prog w 0 spare held fu_ 3 ((cs.drop 1).take (Tryz.prog.cellsOf 3)) = xs[1]? := hf 1 _ rfl
  rw [cz1] at h1
  rw [cz4] at hl
  match cs, hl, xs, hxl with
  | [u0, u1], _, [y0, y1], _ =>
    replace h0 : DataW.trod enc Tryz.prog w 0 spare held fu_ 3 [u0] = some y0 := h0
    obtain ⟨a, q0, e0_0⟩ := trod_i64 h0
    cases q0
    replace h1 : DataW.trod enc Tryz.prog w 0 spare held fu_ 3 [u1] = some y1 := h1
    obtain ⟨b, q1, e1_0⟩ := trod_i64 h1
    cases q1
    exact ⟨a, b, rfl, e0_0, e1_0⟩
theorem el_co (h : DataW.trod enc Tryz.prog w 0 spare held fuel 76 cs = some x) : ∃ y : Int × Int, cs = eS y ∧ True := by
  obtain ⟨a, b, rfl, _⟩ := trod_co h
  exact ⟨(a, b), rfl, trivial⟩
theorem cz5 : Tryz.prog.cellsOf 71 = 5 := by kernel_rfl
set_option maxRecDepth 100000 in
theorem trod_un (h : DataW.trod enc Tryz.prog w 0 spare held fuel 71 cs = some x) : ∃ (nm : ByteArray) (k : Int) (ba : Int) (f_a : Int) (f_b : Int), cs = [.string nm, .int .i64 k, .int .i64 ba, .int .i64 f_a, .int .i64 f_b] ∧ I64 k ∧ I64 ba ∧ I64 f_a ∧ I64 f_b := by
  obtain ⟨xs, fu_, _, _, hl, hxl, hf⟩ := DataW.trod_struct Tryz.underlying71 h
  have h0 : DataW.trod enc Tryz.prog w 0 spare held fu_ 9 ((cs.drop 0).take (Tryz.prog.cellsOf 9)) = xs[0]? := hf 0 _ rfl
  rw [cz2] at h0
  have h1 : DataW.trod enc Tryz.prog w 0 spare held fu_ 3 ((cs.drop 1).take (Tryz.prog.cellsOf 3)) = xs[1]? := hf 1 _ rfl
  rw [cz1] at h1
  have h2 : DataW.trod enc Tryz.prog w 0 spare held fu_ 3 ((cs.drop 2).take (Tryz.prog.cellsOf 3)) = xs[2]? := hf 2 _ rfl
  rw [cz1] at h2
  have h3 : DataW.trod enc Tryz.prog w 0 spare held fu_ 30 ((cs.drop 3).take (Tryz.prog.cellsOf 30)) = xs[3]? := hf 3 _ rfl
  rw [cz3] at h3
  rw [cz5] at hl
  match cs, hl, xs, hxl with
  | [u0, u1, u2, u3, u4], _, [y0, y1, y2, y3], _ =>
    replace h0 : DataW.trod enc Tryz.prog w 0 spare held fu_ 9 [u0] = some y0 := h0
    obtain ⟨nm, q0⟩ := trod_str h0
    cases q0
    replace h1 : DataW.trod enc Tryz.prog w 0 spare held fu_ 3 [u1] = some y1 := h1
    obtain ⟨k, q1, e1_0⟩ := trod_i64 h1
    cases q1
    replace h2 : DataW.trod enc Tryz.prog w 0 spare held fu_ 3 [u2] = some y2 := h2
    obtain ⟨ba, q2, e2_0⟩ := trod_i64 h2
    cases q2
    replace h3 : DataW.trod enc Tryz.prog w 0 spare held fu_ 30 [u3, u4] = some y3 := h3
    obtain ⟨f_a, f_b, q3, e3_0, e3_1⟩ := trod_ra h3
    cases q3
    exact ⟨nm, k, ba, f_a, f_b, rfl, e1_0, e2_0, e3_0, e3_1⟩
theorem el_un (h : DataW.trod enc Tryz.prog w 0 spare held fuel 71 cs = some x) : ∃ y : Uni, cs = eU y ∧ (I64 y.f.1 ∧ I64 y.f.2) := by
  obtain ⟨a, b, c, d, e, rfl, _, _, f1, f2⟩ := trod_un h
  exact ⟨⟨a, b, c, (d, e)⟩, rfl, f1, f2⟩
theorem cz6 : Tryz.prog.cellsOf 74 = 7 := by kernel_rfl
set_option maxRecDepth 100000 in
theorem trod_at (h : DataW.trod enc Tryz.prog w 0 spare held fuel 74 cs = some x) : ∃ (k : Int) (r : Int) (g : Int) (t : Int) (u : Int) (l_a : Int) (l_b : Int), cs = [.int .i64 k, .int .i64 r, .int .i64 g, .int .i64 t, .int .i64 u, .int .i64 l_a, .int .i64 l_b] ∧ I64 k ∧ I64 r ∧ I64 g ∧ I64 t ∧ I64 u ∧ I64 l_a ∧ I64 l_b := by
  obtain ⟨xs, fu_, _, _, hl, hxl, hf⟩ := DataW.trod_struct Tryz.underlying74 h
  have h0 : DataW.trod enc Tryz.prog w 0 spare held fu_ 3 ((cs.drop 0).take (Tryz.prog.cellsOf 3)) = xs[0]? := hf 0 _ rfl
  rw [cz1] at h0
  have h1 : DataW.trod enc Tryz.prog w 0 spare held fu_ 3 ((cs.drop 1).take (Tryz.prog.cellsOf 3)) = xs[1]? := hf 1 _ rfl
  rw [cz1] at h1
  have h2 : DataW.trod enc Tryz.prog w 0 spare held fu_ 3 ((cs.drop 2).take (Tryz.prog.cellsOf 3)) = xs[2]? := hf 2 _ rfl
  rw [cz1] at h2
  have h3 : DataW.trod enc Tryz.prog w 0 spare held fu_ 3 ((cs.drop 3).take (Tryz.prog.cellsOf 3)) = xs[3]? := hf 3 _ rfl
  rw [cz1] at h3
  have h4 : DataW.trod enc Tryz.prog w 0 spare held fu_ 3 ((cs.drop 4).take (Tryz.prog.cellsOf 3)) = xs[4]? := hf 4 _ rfl
  rw [cz1] at h4
  have h5 : DataW.trod enc Tryz.prog w 0 spare held fu_ 30 ((cs.drop 5).take (Tryz.prog.cellsOf 30)) = xs[5]? := hf 5 _ rfl
  rw [cz3] at h5
  rw [cz6] at hl
  match cs, hl, xs, hxl with
  | [u0, u1, u2, u3, u4, u5, u6], _, [y0, y1, y2, y3, y4, y5], _ =>
    replace h0 : DataW.trod enc Tryz.prog w 0 spare held fu_ 3 [u0] = some y0 := h0
    obtain ⟨k, q0, e0_0⟩ := trod_i64 h0
    cases q0
    replace h1 : DataW.trod enc Tryz.prog w 0 spare held fu_ 3 [u1] = some y1 := h1
    obtain ⟨r, q1, e1_0⟩ := trod_i64 h1
    cases q1
    replace h2 : DataW.trod enc Tryz.prog w 0 spare held fu_ 3 [u2] = some y2 := h2
    obtain ⟨g, q2, e2_0⟩ := trod_i64 h2
    cases q2
    replace h3 : DataW.trod enc Tryz.prog w 0 spare held fu_ 3 [u3] = some y3 := h3
    obtain ⟨t, q3, e3_0⟩ := trod_i64 h3
    cases q3
    replace h4 : DataW.trod enc Tryz.prog w 0 spare held fu_ 3 [u4] = some y4 := h4
    obtain ⟨u, q4, e4_0⟩ := trod_i64 h4
    cases q4
    replace h5 : DataW.trod enc Tryz.prog w 0 spare held fu_ 30 [u5, u6] = some y5 := h5
    obtain ⟨l_a, l_b, q5, e5_0, e5_1⟩ := trod_ra h5
    cases q5
    exact ⟨k, r, g, t, u, l_a, l_b, rfl, e0_0, e1_0, e2_0, e3_0, e4_0, e5_0, e5_1⟩
theorem el_at (h : DataW.trod enc Tryz.prog w 0 spare held fuel 74 cs = some x) : ∃ y : Atc, cs = eA y ∧ (I64 y.lot.1 ∧ I64 y.lot.2) := by
  obtain ⟨k, r, g, t, u, a, b, rfl, _, _, _, _, _, f1, f2⟩ := trod_at h
  exact ⟨⟨k, r, g, t, u, (a, b)⟩, rfl, f1, f2⟩
theorem cz7 : Tryz.prog.cellsOf 28 = 1 := by kernel_rfl
theorem cz8 : Tryz.prog.cellsOf 32 = 16 := by kernel_rfl
set_option maxRecDepth 100000 in
theorem trod_cl (h : DataW.trod enc Tryz.prog w 0 spare held fuel 32 cs = some x) : ∃ (k : Int) (r : Int) (a : Int) (n : Int) (sA : Option Addr) (sl : List (Int × Int)) (sc : Nat) (af : Int) (g : Int) (b : Bool) (f : Bool) (p : Int) (re : Int) (v_a : Int) (v_b : Int) (u : Int) (t : Int) (w_ : Bool), cs = [.int .i64 k, .int .i64 r, .int .i64 a, .int .i64 n, .slice sA sl.length sc, .int .i64 af, .int .i64 g, .bool b, .bool f, .int .i64 p, .int .i64 re, .int .i64 v_a, .int .i64 v_b, .int .i64 u, .int .i64 t, .bool w_] ∧ I64 k ∧ I64 r ∧ I64 a ∧ I64 n ∧ LstM w (eS) 2 (fun _ => True) sA sl sc ∧ I64 af ∧ I64 g ∧ I64 p ∧ I64 re ∧ I64 v_a ∧ I64 v_b ∧ I64 u ∧ I64 t := by
  obtain ⟨xs, fu_, _, _, hl, hxl, hf⟩ := DataW.trod_struct Tryz.underlying32 h
  have h0 : DataW.trod enc Tryz.prog w 0 spare held fu_ 3 ((cs.drop 0).take (Tryz.prog.cellsOf 3)) = xs[0]? := hf 0 _ rfl
  rw [cz1] at h0
  have h1 : DataW.trod enc Tryz.prog w 0 spare held fu_ 3 ((cs.drop 1).take (Tryz.prog.cellsOf 3)) = xs[1]? := hf 1 _ rfl
  rw [cz1] at h1
  have h2 : DataW.trod enc Tryz.prog w 0 spare held fu_ 3 ((cs.drop 2).take (Tryz.prog.cellsOf 3)) = xs[2]? := hf 2 _ rfl
  rw [cz1] at h2
  have h3 : DataW.trod enc Tryz.prog w 0 spare held fu_ 3 ((cs.drop 3).take (Tryz.prog.cellsOf 3)) = xs[3]? := hf 3 _ rfl
  rw [cz1] at h3
  have h4 : DataW.trod enc Tryz.prog w 0 spare held fu_ 28 ((cs.drop 4).take (Tryz.prog.cellsOf 28)) = xs[4]? := hf 4 _ rfl
  rw [cz7] at h4
  have h5 : DataW.trod enc Tryz.prog w 0 spare held fu_ 3 ((cs.drop 5).take (Tryz.prog.cellsOf 3)) = xs[5]? := hf 5 _ rfl
  rw [cz1] at h5
  have h6 : DataW.trod enc Tryz.prog w 0 spare held fu_ 3 ((cs.drop 6).take (Tryz.prog.cellsOf 3)) = xs[6]? := hf 6 _ rfl
  rw [cz1] at h6
  have h7 : DataW.trod enc Tryz.prog w 0 spare held fu_ 4 ((cs.drop 7).take (Tryz.prog.cellsOf 4)) = xs[7]? := hf 7 _ rfl
  rw [cz0] at h7
  have h8 : DataW.trod enc Tryz.prog w 0 spare held fu_ 4 ((cs.drop 8).take (Tryz.prog.cellsOf 4)) = xs[8]? := hf 8 _ rfl
  rw [cz0] at h8
  have h9 : DataW.trod enc Tryz.prog w 0 spare held fu_ 3 ((cs.drop 9).take (Tryz.prog.cellsOf 3)) = xs[9]? := hf 9 _ rfl
  rw [cz1] at h9
  have h10 : DataW.trod enc Tryz.prog w 0 spare held fu_ 3 ((cs.drop 10).take (Tryz.prog.cellsOf 3)) = xs[10]? := hf 10 _ rfl
  rw [cz1] at h10
  have h11 : DataW.trod enc Tryz.prog w 0 spare held fu_ 30 ((cs.drop 11).take (Tryz.prog.cellsOf 30)) = xs[11]? := hf 11 _ rfl
  rw [cz3] at h11
  have h12 : DataW.trod enc Tryz.prog w 0 spare held fu_ 3 ((cs.drop 13).take (Tryz.prog.cellsOf 3)) = xs[12]? := hf 12 _ rfl
  rw [cz1] at h12
  have h13 : DataW.trod enc Tryz.prog w 0 spare held fu_ 3 ((cs.drop 14).take (Tryz.prog.cellsOf 3)) = xs[13]? := hf 13 _ rfl
  rw [cz1] at h13
  have h14 : DataW.trod enc Tryz.prog w 0 spare held fu_ 4 ((cs.drop 15).take (Tryz.prog.cellsOf 4)) = xs[14]? := hf 14 _ rfl
  rw [cz0] at h14
  rw [cz8] at hl
  match cs, hl, xs, hxl with
  | [u0, u1, u2, u3, u4, u5, u6, u7, u8, u9, u10, u11, u12, u13, u14, u15], _, [y0, y1, y2, y3, y4, y5, y6, y7, y8, y9, y10, y11, y12, y13, y14], _ =>
    replace h0 : DataW.trod enc Tryz.prog w 0 spare held fu_ 3 [u0] = some y0 := h0
    obtain ⟨k, q0, e0_0⟩ := trod_i64 h0
    cases q0
    replace h1 : DataW.trod enc Tryz.prog w 0 spare held fu_ 3 [u1] = some y1 := h1
    obtain ⟨r, q1, e1_0⟩ := trod_i64 h1
    cases q1
    replace h2 : DataW.trod enc Tryz.prog w 0 spare held fu_ 3 [u2] = some y2 := h2
    obtain ⟨a, q2, e2_0⟩ := trod_i64 h2
    cases q2
    replace h3 : DataW.trod enc Tryz.prog w 0 spare held fu_ 3 [u3] = some y3 := h3
    obtain ⟨n, q3, e3_0⟩ := trod_i64 h3
    cases q3
    replace h4 : DataW.trod enc Tryz.prog w 0 spare held fu_ 28 [u4] = some y4 := h4
    obtain ⟨sA, sl, sc, q4, e4_0⟩ := open_lstm (eS) 2 (fun _ => True) (fun _ => rfl) (by omega) Tryz.underlying28 cz4 (fun _ _ _ h => el_co h) h4
    cases q4
    replace h5 : DataW.trod enc Tryz.prog w 0 spare held fu_ 3 [u5] = some y5 := h5
    obtain ⟨af, q5, e5_0⟩ := trod_i64 h5
    cases q5
    replace h6 : DataW.trod enc Tryz.prog w 0 spare held fu_ 3 [u6] = some y6 := h6
    obtain ⟨g, q6, e6_0⟩ := trod_i64 h6
    cases q6
    replace h7 : DataW.trod enc Tryz.prog w 0 spare held fu_ 4 [u7] = some y7 := h7
    obtain ⟨b, q7⟩ := trod_bo h7
    cases q7
    replace h8 : DataW.trod enc Tryz.prog w 0 spare held fu_ 4 [u8] = some y8 := h8
    obtain ⟨f, q8⟩ := trod_bo h8
    cases q8
    replace h9 : DataW.trod enc Tryz.prog w 0 spare held fu_ 3 [u9] = some y9 := h9
    obtain ⟨p, q9, e9_0⟩ := trod_i64 h9
    cases q9
    replace h10 : DataW.trod enc Tryz.prog w 0 spare held fu_ 3 [u10] = some y10 := h10
    obtain ⟨re, q10, e10_0⟩ := trod_i64 h10
    cases q10
    replace h11 : DataW.trod enc Tryz.prog w 0 spare held fu_ 30 [u11, u12] = some y11 := h11
    obtain ⟨v_a, v_b, q11, e11_0, e11_1⟩ := trod_ra h11
    cases q11
    replace h12 : DataW.trod enc Tryz.prog w 0 spare held fu_ 3 [u13] = some y12 := h12
    obtain ⟨u, q12, e12_0⟩ := trod_i64 h12
    cases q12
    replace h13 : DataW.trod enc Tryz.prog w 0 spare held fu_ 3 [u14] = some y13 := h13
    obtain ⟨t, q13, e13_0⟩ := trod_i64 h13
    cases q13
    replace h14 : DataW.trod enc Tryz.prog w 0 spare held fu_ 4 [u15] = some y14 := h14
    obtain ⟨w_, q14⟩ := trod_bo h14
    cases q14
    exact ⟨k, r, a, n, sA, sl, sc, af, g, b, f, p, re, v_a, v_b, u, t, w_, rfl, e0_0, e1_0, e2_0, e3_0, e4_0, e5_0, e6_0, e9_0, e10_0, e11_0, e11_1, e12_0, e13_0⟩
/-- a clause whose conditions lie in memory, of any number -/
def fitK (w : World) (y : Km) : Prop := LstM w eS 2 (fun _ => True) y.A y.k.start y.cap ∧ I64 y.k.v.1 ∧ I64 y.k.v.2
theorem el_cl (h : DataW.trod enc Tryz.prog w 0 spare held fuel 32 cs = some x) : ∃ y : Km, cs = eK y ∧ fitK w y := by
  obtain ⟨k, r, a, n, sA, sl, sc, af, g, b, f, p, re, v_a, v_b, u, t, w_, rfl, _, _, _, _, f4, _, _, _, _, f9, f10, _, _⟩ := trod_cl h
  exact ⟨⟨⟨k, r, a, n, sl, af, g, b, f, p, re, (v_a, v_b), u, t, w_⟩, sA, sc⟩, rfl, f4, f9, f10⟩
theorem el_i (h : DataW.trod enc Tryz.prog w 0 spare held fuel 3 cs = some x) : ∃ y : Int, cs = eI y ∧ True := by
  obtain ⟨a, rfl, _⟩ := trod_i64 h
  exact ⟨a, rfl, trivial⟩
theorem cz9 : Tryz.prog.cellsOf 22 = 1 := by kernel_rfl
theorem cz10 : Tryz.prog.cellsOf 23 = 1 := by kernel_rfl
theorem cz11 : Tryz.prog.cellsOf 24 = 1 := by kernel_rfl
theorem cz12 : Tryz.prog.cellsOf 25 = 1 := by kernel_rfl
theorem cz13 : Tryz.prog.cellsOf 27 = 7 := by kernel_rfl
set_option maxRecDepth 100000 in
theorem trod_cn (h : DataW.trod enc Tryz.prog w 0 spare held fuel 27 cs = some x) : ∃ (pa : Int) (hA : Option Addr) (hl : List Int) (hc : Nat) (uA : Option Addr) (ul : List Uni) (uc : Nat) (aA : Option Addr) (al : List Atc) (ac : Nat) (kA : Option Addr) (kl : List Km) (kc : Nat) (da : Int) (oA : Option Addr) (ol : List Int) (oc : Nat), cs = [.int .i64 pa, .slice hA hl.length hc, .slice uA ul.length uc, .slice aA al.length ac, .slice kA kl.length kc, .int .i64 da, .slice oA ol.length oc] ∧ I64 pa ∧ LstM w (eI) 1 (fun _ => True) hA hl hc ∧ LstM w (eU) 5 (fun y => I64 y.f.1 ∧ I64 y.f.2) uA ul uc ∧ LstM w (eA) 7 (fun y => I64 y.lot.1 ∧ I64 y.lot.2) aA al ac ∧ LstM w (eK) 16 (fitK w) kA kl kc ∧ I64 da ∧ LstM w (eI) 1 (fun _ => True) oA ol oc := by
  obtain ⟨xs, fu_, _, _, hl, hxl, hf⟩ := DataW.trod_struct Tryz.underlying27 h
  have h0 : DataW.trod enc Tryz.prog w 0 spare held fu_ 3 ((cs.drop 0).take (Tryz.prog.cellsOf 3)) = xs[0]? := hf 0 _ rfl
  rw [cz1] at h0
  have h1 : DataW.trod enc Tryz.prog w 0 spare held fu_ 22 ((cs.drop 1).take (Tryz.prog.cellsOf 22)) = xs[1]? := hf 1 _ rfl
  rw [cz9] at h1
  have h2 : DataW.trod enc Tryz.prog w 0 spare held fu_ 23 ((cs.drop 2).take (Tryz.prog.cellsOf 23)) = xs[2]? := hf 2 _ rfl
  rw [cz10] at h2
  have h3 : DataW.trod enc Tryz.prog w 0 spare held fu_ 24 ((cs.drop 3).take (Tryz.prog.cellsOf 24)) = xs[3]? := hf 3 _ rfl
  rw [cz11] at h3
  have h4 : DataW.trod enc Tryz.prog w 0 spare held fu_ 25 ((cs.drop 4).take (Tryz.prog.cellsOf 25)) = xs[4]? := hf 4 _ rfl
  rw [cz12] at h4
  have h5 : DataW.trod enc Tryz.prog w 0 spare held fu_ 3 ((cs.drop 5).take (Tryz.prog.cellsOf 3)) = xs[5]? := hf 5 _ rfl
  rw [cz1] at h5
  have h6 : DataW.trod enc Tryz.prog w 0 spare held fu_ 22 ((cs.drop 6).take (Tryz.prog.cellsOf 22)) = xs[6]? := hf 6 _ rfl
  rw [cz9] at h6
  rw [cz13] at hl
  match cs, hl, xs, hxl with
  | [u0, u1, u2, u3, u4, u5, u6], _, [y0, y1, y2, y3, y4, y5, y6], _ =>
    replace h0 : DataW.trod enc Tryz.prog w 0 spare held fu_ 3 [u0] = some y0 := h0
    obtain ⟨pa, q0, e0_0⟩ := trod_i64 h0
    cases q0
    replace h1 : DataW.trod enc Tryz.prog w 0 spare held fu_ 22 [u1] = some y1 := h1
    obtain ⟨hA, hl, hc, q1, e1_0⟩ := open_lstm (eI) 1 (fun _ => True) (fun _ => rfl) (by omega) Tryz.underlying22 cz1 (fun _ _ _ h => el_i h) h1
    cases q1
    replace h2 : DataW.trod enc Tryz.prog w 0 spare held fu_ 23 [u2] = some y2 := h2
    obtain ⟨uA, ul, uc, q2, e2_0⟩ := open_lstm (eU) 5 (fun y => I64 y.f.1 ∧ I64 y.f.2) (fun _ => rfl) (by omega) Tryz.underlying23 cz5 (fun _ _ _ h => el_un h) h2
    cases q2
    replace h3 : DataW.trod enc Tryz.prog w 0 spare held fu_ 24 [u3] = some y3 := h3
    obtain ⟨aA, al, ac, q3, e3_0⟩ := open_lstm (eA) 7 (fun y => I64 y.lot.1 ∧ I64 y.lot.2) (fun _ => rfl) (by omega) Tryz.underlying24 cz6 (fun _ _ _ h => el_at h) h3
    cases q3
    replace h4 : DataW.trod enc Tryz.prog w 0 spare held fu_ 25 [u4] = some y4 := h4
    obtain ⟨kA, kl, kc, q4, e4_0⟩ := open_lstm (eK) 16 (fitK w) (fun _ => rfl) (by omega) Tryz.underlying25 cz8 (fun _ _ _ h => el_cl h) h4
    cases q4
    replace h5 : DataW.trod enc Tryz.prog w 0 spare held fu_ 3 [u5] = some y5 := h5
    obtain ⟨da, q5, e5_0⟩ := trod_i64 h5
    cases q5
    replace h6 : DataW.trod enc Tryz.prog w 0 spare held fu_ 22 [u6] = some y6 := h6
    obtain ⟨oA, ol, oc, q6, e6_0⟩ := open_lstm (eI) 1 (fun _ => True) (fun _ => rfl) (by omega) Tryz.underlying22 cz1 (fun _ _ _ h => el_i h) h6
    cases q6
    exact ⟨pa, hA, hl, hc, uA, ul, uc, aA, al, ac, kA, kl, kc, da, oA, ol, oc, rfl, e0_0, e1_0, e2_0, e3_0, e4_0, e5_0, e6_0⟩
theorem cz14 : Tryz.prog.cellsOf 34 = 19 := by kernel_rfl
set_option maxRecDepth 100000 in
theorem trod_pa (h : DataW.trod enc Tryz.prog w 0 spare held fuel 34 cs = some x) : ∃ (ki : Int) (cA : Option Addr) (cl : List Int) (cc : Nat) (e_k : Int) (e_r : Int) (e_a : Int) (e_n : Int) (e_sA : Option Addr) (e_sl : List (Int × Int)) (e_sc : Nat) (e_af : Int) (e_g : Int) (e_b : Bool) (e_f : Bool) (e_p : Int) (e_re : Int) (e_v_a : Int) (e_v_b : Int) (e_u : Int) (e_t : Int) (e_w_ : Bool) (da : Int), cs = [.int .i64 ki, .slice cA cl.length cc, .int .i64 e_k, .int .i64 e_r, .int .i64 e_a, .int .i64 e_n, .slice e_sA e_sl.length e_sc, .int .i64 e_af, .int .i64 e_g, .bool e_b, .bool e_f, .int .i64 e_p, .int .i64 e_re, .int .i64 e_v_a, .int .i64 e_v_b, .int .i64 e_u, .int .i64 e_t, .bool e_w_, .int .i64 da] ∧ I64 ki ∧ LstM w (eI) 1 (fun _ => True) cA cl cc ∧ I64 e_k ∧ I64 e_r ∧ I64 e_a ∧ I64 e_n ∧ LstM w (eS) 2 (fun _ => True) e_sA e_sl e_sc ∧ I64 e_af ∧ I64 e_g ∧ I64 e_p ∧ I64 e_re ∧ I64 e_v_a ∧ I64 e_v_b ∧ I64 e_u ∧ I64 e_t ∧ I64 da := by
  obtain ⟨xs, fu_, _, _, hl, hxl, hf⟩ := DataW.trod_struct Tryz.underlying34 h
  have h0 : DataW.trod enc Tryz.prog w 0 spare held fu_ 3 ((cs.drop 0).take (Tryz.prog.cellsOf 3)) = xs[0]? := hf 0 _ rfl
  rw [cz1] at h0
  have h1 : DataW.trod enc Tryz.prog w 0 spare held fu_ 22 ((cs.drop 1).take (Tryz.prog.cellsOf 22)) = xs[1]? := hf 1 _ rfl
  rw [cz9] at h1
  have h2 : DataW.trod enc Tryz.prog w 0 spare held fu_ 32 ((cs.drop 2).take (Tryz.prog.cellsOf 32)) = xs[2]? := hf 2 _ rfl
  rw [cz8] at h2
  have h3 : DataW.trod enc Tryz.prog w 0 spare held fu_ 3 ((cs.drop 18).take (Tryz.prog.cellsOf 3)) = xs[3]? := hf 3 _ rfl
  rw [cz1] at h3
  rw [cz14] at hl
  match cs, hl, xs, hxl with
  | [u0, u1, u2, u3, u4, u5, u6, u7, u8, u9, u10, u11, u12, u13, u14, u15, u16, u17, u18], _, [y0, y1, y2, y3], _ =>
    replace h0 : DataW.trod enc Tryz.prog w 0 spare held fu_ 3 [u0] = some y0 := h0
    obtain ⟨ki, q0, e0_0⟩ := trod_i64 h0
    cases q0
    replace h1 : DataW.trod enc Tryz.prog w 0 spare held fu_ 22 [u1] = some y1 := h1
    obtain ⟨cA, cl, cc, q1, e1_0⟩ := open_lstm (eI) 1 (fun _ => True) (fun _ => rfl) (by omega) Tryz.underlying22 cz1 (fun _ _ _ h => el_i h) h1
    cases q1
    replace h2 : DataW.trod enc Tryz.prog w 0 spare held fu_ 32 [u2, u3, u4, u5, u6, u7, u8, u9, u10, u11, u12, u13, u14, u15, u16, u17] = some y2 := h2
    obtain ⟨e_k, e_r, e_a, e_n, e_sA, e_sl, e_sc, e_af, e_g, e_b, e_f, e_p, e_re, e_v_a, e_v_b, e_u, e_t, e_w_, q2, e2_0, e2_1, e2_2, e2_3, e2_4, e2_5, e2_6, e2_7, e2_8, e2_9, e2_10, e2_11, e2_12⟩ := trod_cl h2
    cases q2
    replace h3 : DataW.trod enc Tryz.prog w 0 spare held fu_ 3 [u18] = some y3 := h3
    obtain ⟨da, q3, e3_0⟩ := trod_i64 h3
    cases q3
    exact ⟨ki, cA, cl, cc, e_k, e_r, e_a, e_n, e_sA, e_sl, e_sc, e_af, e_g, e_b, e_f, e_p, e_re, e_v_a, e_v_b, e_u, e_t, e_w_, da, rfl, e0_0, e1_0, e2_0, e2_1, e2_2, e2_3, e2_4, e2_5, e2_6, e2_7, e2_8, e2_9, e2_10, e2_11, e2_12, e3_0⟩
/-- a patch in memory, of any size -/
def fitP (w : World) (y : Pk) : Prop := LstM w eI 1 (fun _ => True) y.m.p y.p.cls y.m.pc ∧ fitK w ⟨y.p.new, y.m.A, y.m.cap⟩
theorem el_pa (h : DataW.trod enc Tryz.prog w 0 spare held fuel 34 cs = some x) : ∃ y : Pk, cs = eP y ∧ fitP w y := by
  obtain ⟨ki, cA, cl, cc, e_k, e_r, e_a, e_n, e_sA, e_sl, e_sc, e_af, e_g, e_b, e_f, e_p, e_re, e_v_a, e_v_b, e_u, e_t, e_w_, da, rfl, _, g1, _, _, _, _, g6, _, _, _, _, g11, g12, _, _, _⟩ := trod_pa h
  exact ⟨⟨⟨ki, cl, ⟨e_k, e_r, e_a, e_n, e_sl, e_af, e_g, e_b, e_f, e_p, e_re, (e_v_a, e_v_b), e_u, e_t, e_w_⟩, da⟩, ⟨cA, cc, e_sA, e_sc⟩⟩, rfl, g1, g6, g11, g12⟩
end
/-- a contract in memory, of any size -/
structure ContW (w : World) (c : Con) (m : Cm) : Prop where
  h : LstM w eI 1 (fun _ => True) m.h c.hold m.hc
  u : LstM w eU 5 (fun y => I64 y.f.1 ∧ I64 y.f.2) m.u c.un m.uc
  a : LstM w eA 7 (fun y => I64 y.lot.1 ∧ I64 y.lot.2) m.a c.ac m.ac
  k : LstM w eK 16 (fitK w) m.k m.ks m.kc
  o : LstM w eI 1 (fun _ => True) m.o c.off m.oc
  e : m.ks.map (·.k) = c.cl
theorem ContW.cont {w : World} {c : Con} {m : Cm} (h : ContW w c m) (nh : c.hold.length ≤ 1000000) (nu : c.un.length ≤ 1000000) (na : c.ac.length ≤ 1000000) (nk : c.cl.length ≤ 1000000) (no : c.off.length ≤ 1000000) (ns : ∀ k ∈ c.cl, k.start.length ≤ 1000000) : Cont w c m :=
  ⟨h.h.2.2.2, h.u.2.2.2, h.a.2.2.2, h.k.2.2.2, h.o.2.2.2, h.e, fun x hx => ⟨(h.k.2.2.1 x hx).1.2.2.2, (h.k.2.2.1 x hx).2, ns _ (by rw [← h.e]; exact List.mem_map_of_mem hx), (h.k.2.2.1 x hx).1.1⟩, h.u.2.2.1, h.a.2.2.1, nh, nu, na, nk, no, h.h.1, h.u.1, h.a.1, by have := h.k.1; rw [← h.e]; simpa using this, h.o.1⟩
theorem fitP.patM {w : World} {y : Pk} (h : fitP w y) (n : y.p.cls.length ≤ 1000000) (s : y.p.new.start.length ≤ 1000000) : PatM w y.p y.m :=
  ⟨h.1.2.2.2, n, h.1.1, ⟨h.2.1.2.2.2, h.2.2, s, h.2.1.1⟩⟩
/-- a list of patches in memory, of any size -/
def PatsW (w : World) (A : Option Addr) (L : List Pk) (c : Nat) : Prop := LstM w eP 19 (fitP w) A L c
set_option maxRecDepth 100000 in
/-- a contract, opened -/
theorem open_con {H : Type} {enc : TypeId × Value → H} {w : World} {spare : Nat → Bool} {held : Bool} {b0 : Nat} {v : Value} {d : DataW H} {ps : List MemPlace} (hval : Value.okWide Tryz.prog w .any b0 27 v) (hd : DataW.Trod enc Tryz.prog w 0 spare held 27 v d ps) :
    ∃ (c : Con) (m : Cm), v = .agg (coA c m) ∧ ContW w c m := by
  obtain ⟨cs, rfl, hcs⟩ := okWide_struct Tryz.underlying27 hval
  obtain ⟨fuel, hf⟩ := hd
  simp only [Value.cells] at hf
  obtain ⟨pa, hA, hl, hc, uA, ul, uc, aA, al, ac, kA, kl, kc, da, oA, ol, oc, e, _, Lh, Lu, La, Lk, _, Lo⟩ := trod_cn hf
  obtain ⟨l⟩ := cs
  simp only at e
  subst e
  exact ⟨⟨pa, hl, ul, al, kl.map (·.k), da, ol⟩, ⟨hA, hc, uA, uc, aA, ac, kA, kc, oA, oc, kl⟩, by simp [coA], ⟨Lh, Lu, La, Lk, Lo, rfl⟩⟩
set_option maxRecDepth 100000 in
/-- a patch, opened -/
theorem open_pat {H : Type} {enc : TypeId × Value → H} {w : World} {spare : Nat → Bool} {held : Bool} {b0 : Nat} {v : Value} {d : DataW H} {ps : List MemPlace} (hval : Value.okWide Tryz.prog w .any b0 34 v) (hd : DataW.Trod enc Tryz.prog w 0 spare held 34 v d ps) :
    ∃ (y : Pk), v = .agg (pL y.p y.m) ∧ fitP w y := by
  obtain ⟨cs, rfl, hcs⟩ := okWide_struct Tryz.underlying34 hval
  obtain ⟨fuel, hf⟩ := hd
  simp only [Value.cells] at hf
  obtain ⟨y, e, hy⟩ := el_pa hf
  obtain ⟨l⟩ := cs
  simp only at e
  subst e
  exact ⟨y, rfl, hy⟩
set_option maxRecDepth 100000 in
/-- a clause, opened -/
theorem open_cla {H : Type} {enc : TypeId × Value → H} {w : World} {spare : Nat → Bool} {held : Bool} {b0 : Nat} {v : Value} {d : DataW H} {ps : List MemPlace} (hval : Value.okWide Tryz.prog w .any b0 32 v) (hd : DataW.Trod enc Tryz.prog w 0 spare held 32 v d ps) :
    ∃ (y : Km), v = .agg (kA y) ∧ fitK w y := by
  obtain ⟨cs, rfl, hcs⟩ := okWide_struct Tryz.underlying32 hval
  obtain ⟨fuel, hf⟩ := hd
  simp only [Value.cells] at hf
  obtain ⟨y, e, hy⟩ := el_cl hf
  obtain ⟨l⟩ := cs
  simp only at e
  subst e
  exact ⟨y, rfl, hy⟩
theorem el_bo {H : Type} {enc : TypeId × Value → H} {w : World} {spare : Nat → Bool} {held : Bool} {fuel : Nat} {cs : List Value} {x : DataW H × List MemPlace} (h : DataW.trod enc Tryz.prog w 0 spare held fuel 4 cs = some x) : ∃ y : Bool, cs = [.bool y] ∧ True := by
  obtain ⟨a, rfl⟩ := trod_bo h
  exact ⟨a, rfl, trivial⟩
def eBo (b : Bool) : List Value := [.bool b]
theorem eBo_len (b : Bool) : (eBo b).length = 1 := rfl
set_option maxRecDepth 100000 in
/-- a list of bools, opened -/
theorem open_bos {H : Type} {enc : TypeId × Value → H} {w : World} {spare : Nat → Bool} {held : Bool} {b0 : Nat} {v : Value} {d : DataW H} {ps : List MemPlace} (hval : Value.okWide Tryz.prog w .any b0 47 v) (hd : DataW.Trod enc Tryz.prog w 0 spare held 47 v d ps) :
    ∃ (A : Option Addr) (l : List Bool) (c : Nat), v = .slice A l.length c ∧ LstM w eBo 1 (fun _ => True) A l c := by
  obtain ⟨a0, len, cap, rfl⟩ := okWide_slice Tryz.underlying47 hval
  obtain ⟨fuel, hf⟩ := hd
  obtain ⟨A, l, c, e, hl⟩ := open_lstm eBo 1 (fun _ => True) eBo_len (by omega) Tryz.underlying47 cz0 (fun _ _ _ h => el_bo h) (show DataW.trod enc Tryz.prog w 0 spare held fuel 47 [.slice a0 len cap] = some (d, ps) from hf)
  exact ⟨A, l, c, List.head_eq_of_cons_eq e, hl⟩
end Go.Proofs.YtplommmegkdhdaaGreatDoor
/- The walk of merge.added. -/
namespace Go.Proofs.YtplommmegkdhdaaGreatDoor
open Go.RowKit

theorem addsN_take_succ {l : List Pat} {i : Nat} {p : Pat} (h : l[i]? = some p) : addsN (l.take (i + 1)) = addsN (l.take i) + (if p.kind = 1 then 1 else 0) := by
  have e : l.take (i + 1) = l.take i ++ [p] := by rw [List.take_add_one, h]; rfl
  unfold addsN
  rw [e, List.filter_append, List.length_append]
  by_cases hk : p.kind = 1 <;> simp [hk]
theorem addsN_le (l : List Pat) : addsN l ≤ l.length := List.length_filter_le _ _
end Go.Proofs.YtplommmegkdhdaaGreatDoor
/- The walk of the reference's Adds. -/
namespace Go.Proofs.YtplommmegkdhdaaGreatDoor
open Go.RowKit

end Go.Proofs.YtplommmegkdhdaaGreatDoor
/- The walk of the reference's Small at patches. -/
namespace Go.Proofs.YtplommmegkdhdaaGreatDoor
open Go.RowKit

def Pat.small (p : Pat) : Bool := decide ((p.cls.length : Int) ≤ 500) && decide ((p.new.start.length : Int) ≤ 20)
set_option maxRecDepth 100000 in
set_option maxHeartbeats 3200000 in
theorem rsmallp_any (p : Pat) (pm : Pm) (w : World) : Calls Tryz.prog 11 #[.agg (pL p pm)] w fun e w' => e = .returned (.bool p.small) ∧ Below w.heap.size w w' := by
  obtain ⟨e0, E0⟩ : ∃ x, decide ((p.cls.length : Int) ≤ 500) = x := ⟨_, rfl⟩
  obtain ⟨e1, E1⟩ : ∃ x, decide ((p.new.start.length : Int) ≤ 20) = x := ⟨_, rfl⟩
  have hf : Hid (p.small = (e0 && e1)) := by unfold Hid Pat.small; rw [E0, E1]
  go_enter Tryz.func11, Tryz.ntmps11
  go_upto_region 1 with (fail)
  refine name_wp ?_
  intro X hX
  have gbp : Blk X w.heap.size 34 (pL p pm) := by rw [hX]; exact blk_at (by simp)
  have HB : Below w.heap.size w X := by rw [hX]; (repeat (first | with_reducible assumption | with_reducible exact Below.refl _ _ | with_reducible refine below_drewN ?_ _ | with_reducible refine Below.drew ?_ | with_reducible refine below_alloc ?_ _ | with_reducible refine Below.setCell ?_ (by first | omega | (simp; done) | (simp; omega)) _ | with_reducible refine below_then ?_ (by with_reducible assumption) | (refine below_then (a := World.drew _) ?_ (by with_reducible assumption))))
  clear hX
  obtain ⟨bp, ebp⟩ : ∃ b, w.heap.size = b := ⟨_, rfl⟩
  have lbp : w.heap.size ≤ bp := by omega
  rw [ebp] at gbp ⊢
  clear ebp
  have p1 : X.cell? ⟨bp, 1, none⟩ = some (.slice pm.p p.cls.length pm.pc) := gbp.cell 1
  have p6 : X.cell? ⟨bp, 6, none⟩ = some (.slice pm.A p.new.start.length pm.cap) := gbp.cell 6
  have HBX := Lib.hid HB
  clear HB gbp
  cases e0
  case false => (go_wp2; go_ret; exact ⟨by rw [hf.out]; rfl, HBX.out⟩)
  cases e1
  case false => (go_wp2; go_ret; exact ⟨by rw [hf.out]; rfl, HBX.out⟩)
  case true => (go_wp2; go_ret; exact ⟨by rw [hf.out]; rfl, HBX.out⟩)
end Go.Proofs.YtplommmegkdhdaaGreatDoor
