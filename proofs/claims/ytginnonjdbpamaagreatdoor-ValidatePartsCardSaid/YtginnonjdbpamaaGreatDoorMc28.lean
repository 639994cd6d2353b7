/- Contracts of functions and plain laws, joined: Wt5. -/
import Derived.Test.YtginnonjdbpamaaGreatDoorMc27
/- The walk of validate.Decode. -/
import Derived.Test.YtginnonjdbpamaaGreatDoorMc1
set_option maxHeartbeats 12800000
set_option maxRecDepth 100000
namespace Go.Proofs.YtginnonjdbpamaaGreatDoor
open Go.RowKit Go.Sort
structure Halt (p : Prop) : Prop where
 out : p
theorem stop_b (id : Nat) {c : Code} {P : Program} {Q : Exit → Act → World → Prop} {a : Act} {w : World} (h : Halt ((Code.block id c).wp P Q a w)) : (Code.block id c).wp P Q a w := h.out
def xH6 (bg br : Nat) (W : World) : Nat := match W.cell? ⟨bg, 0, none⟩, W.cell? ⟨br, 0, none⟩ with
 | some (.bool true), some (.string s) => s.size + 1
 | _, _ => 0
theorem xDj {bg br : Nat} {W : World} {rest : List UInt8} (hg : Blk W bg 4 #[.bool true]) (hr : Blk W br 9 #[.string (tBy rest)]) : xH6 bg br W = rest.length + 1 := by
 unfold xH6
 rw [show W.cell? ⟨bg, 0, none⟩ = some (.bool true) from hg.cell 0, show W.cell? ⟨br, 0, none⟩ = some (.string (tBy rest)) from hr.cell 0]
 simp [xBe]
theorem xFr {bg br : Nat} {W : World} (hg : Blk W bg 4 #[.bool false]) : xH6 bg br W = 0 := by
 unfold xH6
 rw [show W.cell? ⟨bg, 0, none⟩ = some (.bool false) from hg.cell 0]
theorem xIx (r : List UInt8) : Lib.hasPrefix r [59] = true ↔ r.head? = some 59 := by
 unfold Lib.hasPrefix
 cases r with
 | nil =>
  constructor
  ·intro h; exact absurd h (by decide)
  ·intro h; exact absurd h (by simp)
 | cons c l =>
  rw [List.head?_cons, Option.some.injEq]
  show (((59 : UInt8) == c) && List.isPrefixOf [] l) = true ↔ c = 59
  rw [List.isPrefixOf, Bool.and_true, beq_iff_eq]
  exact eq_comm
theorem wp_appG {α : Type} {w : World} {o : Oper} {a : Act} {K : Act → World → Prop} {Q : Exit → Act → World → Prop} {T L : TypeId} {size : Nat} {enc : α → List Value} (s x : Operand) (ho : o.op = .call { callee := .builtin .append, args := #[s, x], argTypes := #[L, L] })
  (i : TypeInfo) (z : Value) (hu : Tryz.prog.underlying L = some (.slice T)) (hi : Tryz.prog.info? T = some i) (hz : i.zero = some z) (hsize : i.size = size) (hzs : z.cells.size = size) (hsz : 0 < size) (hby : i.bytes ≤ 100000) (he : ∀ y, (enc y).length = size) (h1 : ∀ y, ∀ u ∈ enc y, u.oneCell' = true)
  (B : Nat) (v : Value) (xs : List α) (hs : a.eval s = v) (hown : Own w B T size enc v xs) (hl : xs.length ≤ 1000000) (g c : Nat) (y : α) (hx : a.eval x = .slice (some ⟨g, 0, none⟩) 1 c) (hblk : Blk w g T (enc y).toArray) (hbase : B ≤ w.heap.size)
  (h : ∀ v' w', Own w' B T size enc v' (xs ++ [y]) → w.grownBy w' v.ownBlock → Below B w w' → K (a.put o.dst v') w') : o.wp Tryz.prog a w K Q := by
 obtain ⟨v', w', hr, h2, h3, _, h5⟩ := run_append_own_at (P := Tryz.prog) w B L o.type T i z size i.bytes hu hi hz hsize rfl hzs hsz v xs.length (xs.flatMap enc) hown ⟨g, 0, none⟩ 1 c (enc y) (by rw [he]; simp) (by
  intro j u hu
  have hadd : (⟨g, 0, none⟩ : Addr).add j = ⟨g, j, none⟩ := by unfold Addr.add; split <;> simp_all
  rw [hadd, hblk.cell j]; simpa using hu) (h1 y) (by unfold maxLen; omega) (by have : (xs.length + 1) * i.bytes ≤ 1000001 * 100000 := Nat.mul_le_mul (by omega) hby; omega) hbase
 unfold Oper.wp execOp
 simp only [ho, resolve, invoke, builtin, Sem.run_bind, Sem.run_pure, Result.andThen_ok, List.map_toArray, List.map_cons, List.map_nil, hs, hx, hr]
 refine h v' w' ?_ h3 ((Below.refl B w).grown h3 hbase fun k hk => (World.ownsRow.lt hown k hk).1)
 unfold Own
 rw [List.length_append, List.flatMap_append]
 simpa using h2
theorem res_ct {fn : Func} {tmps : Array Value} {w : World} {r s g : Nat} {cs : Array Value} {v : Value} (hres : fn.results = #[.cell r 43, .tmp s]) (hp : tmps.getD r undef = .pointer (some ⟨g, 0, none⟩)) (hv : tmps.getD s undef = v) (hb : Blk w g 43 cs) (hs : cs.size = 4) :
  (results fn tmps).run Tryz.prog w = .ok (.tuple #[.agg cs, v]) w := by
 simp only [Array.getD_eq_getD_getElem?] at hp hv
 obtain ⟨l⟩ := cs
 obtain ⟨a, b, c, d, rfl⟩ : ∃ a b c d, l = [a, b, c, d] := by
  match l, hs with
  | [a, b, c, d], _ => exact ⟨a, b, c, d, rfl⟩
 have c0 : w.cell? ⟨g, 0, none⟩ = some a := hb.cell 0
 have c1 : w.cell? ⟨g, 1, none⟩ = some b := hb.cell 1
 have c2 : w.cell? ⟨g, 2, none⟩ = some c := hb.cell 2
 have c3 : w.cell? ⟨g, 3, none⟩ = some d := hb.cell 3
 simp [results, hres, hp, hv, go_sem, c0, c1, c2, c3]
def ipos (k : Nat) (W : World) : Nat := match W.heap[k]? with | some (.stringIter _ p) => p | _ => 0
theorem ipos_at {k : Nat} {W : World} {s : ByteArray} {p : Nat} (h : W.heap[k]? = some (.stringIter s p)) : ipos k W = p := by unfold ipos; rw [h]
def zSta : Sta := ⟨0, [], [], []⟩
def decS (t : List UInt8) : Sta := (decV t).getD zSta
def decE (t : List UInt8) : Int := if (decV t).isSome then 0 else 20
theorem xEh (t : List UInt8) (w : World) (hL : Lw w) (ht : t.length ≤ 900000) :
  Calls Tryz.prog 19 #[.string (tBy t)] w (RetS w (decS t) (decE t)) := by
 obtain ⟨D, hD⟩ : ∃ D, decV t = D := ⟨_, rfl⟩
 obtain ⟨S, hS⟩ : ∃ S, decS t = S := ⟨_, rfl⟩
 obtain ⟨E, hE⟩ : ∃ E, decE t = E := ⟨_, rfl⟩
 rw [hS, hE]
 have HSE : Hid (S = D.getD zSta ∧ E = if D.isSome then 0 else 20) := by unfold Hid; rw [← hS, ← hE, ← hD]; exact ⟨rfl, rfl⟩
 have HD : Hid (D = (xC8 t 59).bind fun d => xEj (t.length + 1) d.1 [] d.2) := by unfold Hid; rw [← hD]; exact decV_cont t
 have HL := qzL hL
 clear hD hS hE hL
 go_enter Tryz.func19, Tryz.ntmps19
 go_upto_region 4 with (fail)
 refine xAf ?_
 intro X hX
 have gz : Blk X w.heap.size 43 #[.int .i64 0, .slice none 0 0, .slice none 0 0, .slice none 0 0] := by rw [hX]; exact ((Blk.new _ _ _).alloc _).alloc _
 have gr : Blk X (w.heap.size + 1) 9 #[.string (tBy t)] := by rw [hX]; exact (xA5 (by simp)).alloc _
 have gg : Blk X (w.heap.size + 1 + 1) 4 #[.bool true] := by rw [hX]; exact xA5 (by simp)
 have HB : Hid (Below w.heap.size w X) := by rw [hX]; unfold Hid; (repeat (first | (with_reducible first | assumption | exact Below.refl _ _ | refine xAk ?_ _ | refine Below.drew ?_ | refine xAc ?_ _ | refine Below.setCell ?_ (by first | omega | (simp; done) | (simp; omega)) _ | refine xAa ?_ (by assumption)) | (refine xAa (a := World.drew _) ?_ (by with_reducible assumption))))
 have hsz : X.heap.size = w.heap.size + 3 := by rw [hX]; simp
 obtain ⟨bg, eg⟩ : ∃ b, w.heap.size + 1 + 1 = b := ⟨_, rfl⟩
 obtain ⟨br, er⟩ : ∃ b, w.heap.size + 1 = b := ⟨_, rfl⟩
 obtain ⟨bz, ez⟩ : ∃ b, w.heap.size = b := ⟨_, rfl⟩
 obtain ⟨N, eN⟩ : ∃ N, X.heap.size = N := ⟨_, rfl⟩
 have lts : Hid (w.heap.size = bz ∧ bz < br ∧ br < bg ∧ bg < N) := by unfold Hid; omega
 rw [eg] at gg ⊢
 rw [er] at gr ⊢
 rw [ez] at gz ⊢
 clear hX eg er ez hsz
 obtain ⟨C, hC⟩ : ∃ C, Lib.cut t [59] = C := ⟨_, rfl⟩
 obtain ⟨c1, c2, c3⟩ := C
 have hcl := xDg t 59
 rw [hC] at hcl
 obtain ⟨hl1, hl2⟩ := hcl
 have hl1 : c1.length ≤ t.length := hl1
 have hl2 : c2.length ≤ t.length := hl2
 have HT1 := qzL (take_any br bg 59 t true X (HL.out.below HB.out) (by omega) gr gg)
 rw [hC] at HT1
 have HT1 : Hid (Calls Tryz.prog 35 #[.string ⟨#[59]⟩, .pointer (some ⟨br, 0, none⟩), .pointer (some ⟨bg, 0, none⟩)] X fun x w' => x = .returned (.string (tBy c1)) ∧ Blk w' br 9 #[.string (tBy c2)] ∧ Blk w' bg 4 #[.bool (true && c3)] ∧ Kept X w' (pRG br bg)) := HT1
 rw [takeN_cut hC] at HD
 have GZ := qzL gz
 clear gz gr gg hC
 have hbr : w.heap.size ≤ br ∧ w.heap.size ≤ bg := by have := lts.out; omega
 go_upto_region 5 with (first | (go_at_call 35; (with_reducible refine HT1.out.mono ?_); rintro x w1 ⟨rfl, r1, g1, k1⟩; have HB1 := qzL (HB.out.trans (k1.b _ (by rintro x (rfl | rfl); exact hbr.1; exact hbr.2) HB.out.size)); have HN1 := qzL (xF9 bg c1 (true && c3) w1 (HL.out.below HB1.out) (by omega) g1); have HR1 := qzL r1; have HK1 := qzL k1; clear r1 g1 k1) | (go_at_call 37; (with_reducible refine HN1.out.mono ?_); rintro x w2 ⟨n, rfl, hn, g2, k2⟩; have HN2 := qzL hn; have HG2 := qzL g2; have HK2 := qzL k2; clear hn g2 k2) | (refine stop_b 0 ?_))
 refine ⟨?_⟩
 refine xAf ?_
 intro Y hY
 obtain ⟨bs, ebs⟩ : ∃ b, w2.heap.size = b := ⟨_, rfl⟩
 have h0 : Hid (Dm w Y N br bg bs bz c2 (true && c3 && numO c1) n (.slice none 0 0) (.slice none 0 0) (.slice none 0 0) [] [] []) := by
  have hbY : Below w2.heap.size w2 Y := by rw [hY]; exact wa1 _ _
  have lt := lts.out
  have s1 := HK1.out.size
  have s2 := HK2.out.size
  have r2 := HR1.out.kept HK2.out (fun e => by omega)
  have hpz1 : ¬ pRG br bg bz := by rintro (e | e) <;> omega
  refine ⟨r2.then_ hbY, HG2.out.then_ hbY, ?_, ((GZ.out.kept HK1.out hpz1).kept HK2.out (by omega)).then_ hbY, Own.nil _ _ _ _ _, Own.nil _ _ _ _ _, Own.nil _ _ _ _ _, xAa (HB1.out.trans (HK2.out.b _ (by rintro x rfl; omega) HB1.out.size)) hbY, by have := hbY.size; omega⟩
  rw [hY, ← ebs]
  exact Blk.new _ _ _
 have hD0 : Hid (((true && c3 && numO c1) = true → D = xEj (t.length + 1) n [] c2) ∧ ((true && c3 && numO c1) = false → D = none)) := by
  have h1 := HD.out
  constructor
  ·intro hg
   rw [Bool.true_and] at hg
   rw [h1, if_pos hg, Option.bind_some, HN2.out (by rw [Bool.and_eq_true] at hg; exact hg.2)]
  ·intro hg
   rw [Bool.true_and] at hg
   rw [h1, if_neg (by rw [hg]; decide)]
   rfl
 rw [ebs]
 clear hY ebs HD HN2 HG2 HK2 HK1 HR1 HB1 HT1 GZ hbr
 obtain ⟨good0, hgd⟩ : ∃ g, (true && c3 && numO c1) = g := ⟨_, rfl⟩
 rw [hgd] at h0 hD0
 clear hgd
 obtain ⟨ri, hi, hz0, hz1, hz2⟩ := info_parts (show (Tryz.prog.info? 3).map (fun i => (i.zero, i.size, i.bytes)) = some (some (.int .i64 0), 1, 8) by kernel_rfl)
 go_cut [] from 22 to 36 (fun W => ∃ (rest : List UInt8) (good : Bool) (vh : Value) (hol : List Int), Hid (Dm w W N br bg bs bz rest good n vh (.slice none 0 0) (.slice none 0 0) hol [] []) ∧ rest.length ≤ t.length ∧ hol.length ≤ t.length + 1 ∧ Hid ((good = true → rest.head? = some 59 ∧ D = xEj (t.length + 1) n hol rest) ∧ (good = false → D = none)))
 case first =>
  go_upto_region 5 with (fail)
  go_loopw [] (fun WR => ∃ (rest : List UInt8) (good : Bool) (vh : Value) (hol : List Int), Hid (Dm w WR N br bg bs bz rest good n vh (.slice none 0 0) (.slice none 0 0) hol [] []) ∧ rest.length ≤ t.length ∧ hol.length ≤ t.length + 1 ∧ Hid (good = true → hol.length + rest.length ≤ t.length) ∧ Hid ((good = true → D = xEj (t.length + 1) n hol rest) ∧ (good = false → D = none))) (fun W => xH6 bg br W)
  case atStart => exact ⟨c2, good0, _, [], h0, by omega, by simp, qzL (fun _ => by simpa using hl2), hD0⟩
  case round =>
   clear h0 hD0
   obtain ⟨rest, good, vh, hol, hM, hl3, hl4, hl5, hDD⟩ := hrel
   have HGM : Hid (good = true → xH6 bg br wr = rest.length + 1) := fun e => xDj (e ▸ hM.out.g) hM.out.r
   have kg : wr.cell? ⟨bg, 0, none⟩ = some (.bool good) := hM.out.g.cell 0
   have kr : wr.cell? ⟨br, 0, none⟩ = some (.string (tBy rest)) := hM.out.r.cell 0
   cases good with
   | false =>
    go_wp2
    go_meet
    case rel => exact ⟨rest, false, vh, hol, hM, hl3, hl4, qzL ⟨fun h => (by cases h), fun _ => hDD.out.2 (by trivial)⟩⟩
   | true =>
   obtain ⟨hp, hhp⟩ : ∃ b, Lib.hasPrefix rest [59] = b := ⟨_, rfl⟩
   have HPC : Hid (Calls Tryz.prog 40 #[.string (tBy rest), .string ⟨#[59]⟩] wr fun e w' => e = .returned (.bool hp) ∧ w' = wr) := by
    have h1 := Tryz.strings_HasPrefix (tBy rest) ⟨#[59]⟩ wr
    rw [← hhp]
    exact h1
   have hph := xIx rest
   rw [hhp] at hph
   have HPH := qzL hph
   clear hph hhp
   cases hp with
   | true =>
    go_wp2_with (go_at_call 40; (with_reducible refine HPC.out.mono ?_); rintro e w2' ⟨rfl, hw2'⟩; subst w2')
    go_meet
    case rel => exact ⟨rest, true, vh, hol, hM, hl3, hl4, qzL ⟨fun _ => ⟨HPH.out.1 (by trivial), hDD.out.1 (by trivial)⟩, fun h => (by cases h)⟩⟩
   | false =>
    have HNP : Hid (rest.head? ≠ some 59) := fun e => by have := HPH.out.2 e; first | exact this | cases this
    go_upto_region 6 with (go_at_call 40; (with_reducible refine HPC.out.mono ?_); rintro e w2' ⟨rfl, hw2'⟩; subst w2')
    obtain ⟨A, cap, rfl, hcap, _, _, _, _, hty⟩ := hM.out.oh.segz xAz
    obtain ⟨C, hC⟩ : ∃ C, Lib.cut rest [44] = C := ⟨_, rfl⟩
    obtain ⟨a1, a2, a3⟩ := C
    have hcl := xDg rest 44
    rw [hC] at hcl
    obtain ⟨hk1, hk2⟩ := hcl
    have hk1 : a1.length ≤ rest.length := hk1
    have hk2 : a2.length ≤ rest.length := hk2
    have hk3 := xG7 rest 44
    rw [hC] at hk3
    have HK3 : Hid (a3 = true → a2.length < rest.length) := hk3
    have HST : Hid (xEj (t.length + 1) n hol rest = if (a3 && numO a1) = true then xEj (t.length + 1) n (hol ++ [numD a1]) a2 else none) := cont1_step HNP.out (by omega) hC
    have hMd := hM.out.then_ (Below.drew (Below.refl _ _))
    have HTK := qzL (hMd.take HL.out 44 (by omega) hC)
    have hnr : ∀ x, (Value.slice A hol.length cap).ownBlock = some x → x ≠ bs ∧ N ≤ x := fun x hx => ⟨fun e => Own.blk_ne_row hM.out.s hM.out.oh (by decide) hx e.symm, (World.ownsRow.lt hM.out.oh x hx).1⟩
    have HNR := qzL hnr
    have hl5' := hl5.out (by trivial)
    have hcs : ∀ W, Kept wr W (fun x => pRG br bg x ∨ (Value.slice A hol.length cap).ownBlock = some x) → W.cell? ⟨bs, 1, none⟩ = some (.slice A hol.length cap) := fun W hw => (hM.out.s.kept hw (fun e => by
     rcases e with (e | e) | e
     ·exact xAw hM.out.s hM.out.r (by decide) e
     ·exact xAw hM.out.s hM.out.g (by decide) e
     ·exact (HNR.out _ e).1 rfl)).cell 1
    clear hC hk3 hMd hty hnr kg kr HPC HPH
    refine xBo (fun w' => Hid (Kept wr w' (fun x => pRG br bg x ∨ (Value.slice A hol.length cap).ownBlock = some x))) [0, 1, 2, 3, 4, 5, 6, 7] [8, 9] (by kernel_rfl) (by kernel_rfl) (by repeat (first | with_reducible refine xF7 ?_ | with_reducible refine xFi ?_ | exact xF8 | exact fun _ _ _ _ _ h => h)) (qzL (Kept.of_below (Below.drew (Below.refl _ _)))) (fun hdir hsel hpan hHeld => ?_)
    refine xAd (i := 0) (oi := ⟨some 28, _, _, _, _, _⟩) (v := .pointer (some ⟨bs, 1, none⟩)) hdir hsel hpan rfl (by kernel_rfl) (by kernel_rfl) (by kernel_rfl) (Or.inl ⟨by rfl, fun w hw => by go_simp⟩) (by assumption) ?_
    try simp only [Act.put, qzG, qzI, qzH]
    refine xAd (i := 1) (oi := ⟨some 29, _, _, _, _, _⟩) (v := .slice A hol.length cap) hdir hsel hpan rfl (by kernel_rfl) (by kernel_rfl) (by kernel_rfl) (Or.inl ⟨by rfl, fun w hw => by have hc := hcs w hw.out; go_simp⟩) (by assumption) ?_
    try simp only [Act.put, qzG, qzI, qzH]
    refine xAd (i := 2) (oi := ⟨some 30, _, _, _, _, _⟩) (v := .func (.func 37) #[] #[.pointer (some ⟨bg, 0, none⟩)]) hdir hsel hpan rfl (by kernel_rfl) (by kernel_rfl) (by kernel_rfl) (Or.inl ⟨by rfl, fun w hw => by go_simp⟩) (by assumption) ?_
    try simp only [Act.put, qzG, qzI, qzH]
    refine xAd (i := 3) (oi := ⟨some 31, _, _, _, _, _⟩) (v := .func (.func 35) #[] #[.pointer (some ⟨br, 0, none⟩), .pointer (some ⟨bg, 0, none⟩)]) hdir hsel hpan rfl (by kernel_rfl) (by kernel_rfl) (by kernel_rfl) (Or.inl ⟨by rfl, fun w hw => by go_simp⟩) (by assumption) ?_
    try simp only [Act.put, qzG, qzI, qzH]
    refine xAr (rs := [4]) (by kernel_rfl) (by simp) ?_
    refine AllHB.cons (by kernel_rfl) (o := ⟨some 32, _, _, _, _, _⟩) rfl (fun K' hK => ?_) AllHB.nil
    go_simp
    go_at_call 35
    with_reducible refine HTK.out.mono ?_
    rintro x W1 ⟨rfl, hM1, k1⟩
    refine hK.out _ _ (qzL (hHeld.out.trans (k1.weak fun _ h => .inl h))) (fun hHeld2 => ?_)
    clear hK K' hHeld HTK
    have hHeld := hHeld2
    clear hHeld2
    try simp only [Act.put, qzG, qzI, qzH]
    have HNU := qzL (hM1.number HL.out a1 (by omega))
    refine xAr (rs := [5]) (by kernel_rfl) (by simp) ?_
    refine AllHB.cons (by kernel_rfl) (o := ⟨some 33, _, _, _, _, _⟩) rfl (fun K' hK => ?_) AllHB.nil
    go_simp
    go_at_call 37
    with_reducible refine HNU.out.mono ?_
    rintro x W2 ⟨y, rfl, hy, hM2, k2⟩
    refine hK.out _ _ (qzL (hHeld.out.trans (k2.weak fun _ h => .inl h))) (fun hHeld2 => ?_)
    clear hK K' hHeld HNU hM1 k1
    have hHeld := hHeld2
    clear hHeld2
    try simp only [Act.put, qzG, qzI, qzH]
    refine xAr (rs := [6]) (by kernel_rfl) (by simp) ?_
    refine AllHB.cons (by kernel_rfl) (o := ⟨some 34, _, _, _, _, _⟩) rfl (fun K' hK => ?_) AllHB.nil
    go_simp
    refine xBj ?_
    intro V1 hV1
    obtain ⟨b1, e1, gb1, hbb1⟩ := xFo (W := W2) (V := V1) (t := 3) (cs := #[.int .i64 y]) hV1
    rw [e1]
    refine hK.out _ _ (qzL (hHeld.out.trans (Kept.of_below hbb1))) (fun hHeld2 => ?_)
    have hM3 := hM2.then_ hbb1
    clear hK K' hHeld hM2 k2 hV1 hbb1
    have hHeld := hHeld2
    clear hHeld2
    try simp only [Act.put, qzG, qzI, qzH]
    refine xAr (rs := [7]) (by kernel_rfl) (by simp) ?_
    refine AllHB.cons (by kernel_rfl) (o := ⟨some 35, _, _, _, _, _⟩) rfl (fun K' hK => ?_) AllHB.nil
    refine (if_pos (by rfl)).mpr ?_
    have hlN := hM3.l
    refine wp_appG (.tmp 29) (.tmp 34) rfl ri _ Tryz.underlying22 hi hz0 hz1 rfl (by omega) (by rw [hz2]; omega) xAz (fun y u hu => by simp only [eI, List.mem_cons, List.not_mem_nil, or_false] at hu; subst hu; rfl) N _ hol rfl hM3.oh (by omega) b1 1 y rfl gb1 hlN.2.1 ?_
    intro v' W4 hO4 hg4 hb4
    refine hK.out _ _ (qzL (hHeld.out.trans ((Kept.grown hg4).weak fun _ h => .inr h))) (fun hHeld2 => ?_)
    have hD4 := hM3.grow hM3.oh (.inl rfl) hg4 hb4
    have hou4 := hM3.ou
    have hom4 := hM3.om
    clear hK K' hHeld hHeld2 hM3 gb1
    try simp only [Act.put, qzG, qzI, qzH]
    refine xBf (by kernel_rfl) (by kernel_rfl) ?_
    clear hdir hsel hpan
    simp only [xAm, qzA, qzB, qzC, qzD, qzE, qzF]
    obtain ⟨r4, g4, s4, z4, b4⟩ := hD4
    obtain ⟨A', cap', rfl, hcap', _, _, _, _, hty'⟩ := hO4.segz xAz
    have fs : W4.frozen? ⟨bs, 1, none⟩ = false := s4.frozen 1
    have ks : W4.cell? ⟨bs, 1, none⟩ = some (.slice A hol.length cap) := s4.cell 1
    have ns1 : br ≠ bs := xAw r4 s4 (by decide)
    have ns2 : bg ≠ bs := xAw g4 s4 (by decide)
    have HO4 := qzL (hO4.setNe (p := ⟨bs, 1, none⟩) (by intro k hk e; exact Own.blk_ne_row s4 hO4 (by decide) hk e.symm) (.slice A' (hol ++ [y]).length cap'))
    have HF4 : Hid (Dm w (W4.setCell ⟨bs, 1, none⟩ (.slice A' (hol ++ [y]).length cap')) N br bg bs bz a2 (true && a3 && numO a1) n (.slice A' (hol ++ [y]).length cap') (.slice none 0 0) (.slice none 0 0) (hol ++ [y]) [] []) := by
     refine ⟨r4.far (p := ⟨bs, 1, none⟩) ns1 _, g4.far (p := ⟨bs, 1, none⟩) ns2 _, ?_, z4.far (p := ⟨bs, 1, none⟩) hlN.2.2.2.2.2.1.symm _, HO4.out, Own.nil _ _ _ _ _, Own.nil _ _ _ _ _, b4.setCell (p := ⟨bs, 1, none⟩) hlN.2.2.2.2.2.2.1 _, ?_⟩
     ·have h5 := s4.set_ 1 (.slice A' (hol ++ [y]).length cap')
      simpa using h5
     ·have h5 := hb4.size
      rw [World.size_setCell]
      omega
    have hle : (hol ++ [y]).length = hol.length + 1 := by rw [List.length_append]; rfl
    have HLE := qzL hle
    clear r4 g4 s4 z4 b4 hO4 hty' hle hou4 hom4 hg4 hb4
    go_wp2
    rw [HLE.out] at HF4
    have hgm := HGM.out (by trivial)
    refine ⟨⟨a2, (true && a3 && numO a1), _, hol ++ [y], HF4, by omega, by rw [HLE.out]; omega, ?_, ?_⟩, ?_⟩
    ·intro hg
     rw [Bool.true_and, Bool.and_eq_true] at hg
     have := HK3.out hg.1
     rw [HLE.out]
     omega
    ·refine ⟨fun hg => ?_, fun hg => ?_⟩
     ·rw [Bool.true_and] at hg
      rw [hDD.out.1 (by trivial), HST.out, if_pos hg, hy (by rw [Bool.and_eq_true] at hg; exact hg.2)]
     ·rw [Bool.true_and] at hg
      rw [hDD.out.1 (by trivial), HST.out, if_neg (by rw [hg]; decide)]
    ·rw [hgm]
     cases hg : (true && a3 && numO a1) with
     | true =>
      rw [hg] at HF4
      rw [xDj HF4.out.g HF4.out.r]
      rw [Bool.true_and, Bool.and_eq_true] at hg
      have := HK3.out hg.1
      omega
     | false =>
      rw [hg] at HF4
      rw [xFr HF4.out.g]
      omega
 case rest =>
  clear h0 hD0 hi hz0 hz1 hz2
  obtain ⟨rest, good, vh, hol, hM, hl3, hl4, hDD⟩ := hcut
  obtain ⟨C, hC⟩ : ∃ C, Lib.cut rest [59] = C := ⟨_, rfl⟩
  obtain ⟨a1, a2, a3⟩ := C
  have hcl := xDg rest 59
  rw [hC] at hcl
  have hk2 : a2.length ≤ rest.length := hcl.2
  have hD1 : Hid (((good && a3) = true → D = cont2 (t.length + 1) n hol a2) ∧ ((good && a3) = false → D = none)) := by
   constructor
   ·intro hg
    rw [Bool.and_eq_true] at hg
    obtain ⟨h1, h2⟩ := hDD.out.1 hg.1
    obtain ⟨h3, h4⟩ := xIf (N := t.length + 1) (d := n) (acc := hol) h1 (by omega)
    rw [hC] at h4
    injection h4 with _ h4
    injection h4 with h4 _
    rw [h2, h3, h4]
   ·intro hg
    cases hgd : good with
    | false => exact hDD.out.2 hgd
    | true =>
     obtain ⟨h1, h2⟩ := hDD.out.1 hgd
     obtain ⟨_, h4⟩ := xIf (N := t.length + 1) (d := n) (acc := hol) h1 (by omega)
     rw [hC] at h4
     injection h4 with _ h4
     injection h4 with _ h4
     rw [hgd, h4] at hg
     cases hg
  obtain ⟨C, hC2⟩ : ∃ C, Lib.cut a2 [59] = C := ⟨_, rfl⟩
  obtain ⟨b1, b2, b3⟩ := C
  have hcl2 := xDg a2 59
  rw [hC2] at hcl2
  have hk3 : b1.length ≤ a2.length := hcl2.1
  have hk4 : b2.length ≤ a2.length := hcl2.2
  obtain ⟨g1, hg1⟩ : ∃ g, (good && a3) = g := ⟨_, rfl⟩
  rw [hg1] at hD1
  have hD2 : Hid (((g1 && b3) = true → D = (decU b1).bind fun u => xEt (t.length + 1) n hol u [] b2) ∧ ((g1 && b3) = false → D = none)) := by
   constructor
   ·intro hg
    rw [Bool.and_eq_true] at hg
    rw [hD1.out.1 hg.1]
    unfold cont2
    rw [hC2]
    simp only [hg.2, if_true]
   ·intro hg
    cases hgd : g1 with
    | false => exact hD1.out.2 hgd
    | true =>
     rw [hgd, Bool.true_and] at hg
     rw [hD1.out.1 hgd]
     unfold cont2
     rw [hC2]
     simp only [hg, Bool.false_eq_true, if_false]
  have HTK := qzL (hM.out.take HL.out 59 (by omega) hC)
  rw [hg1] at HTK
  have HC2 := qzL hC2
  obtain ⟨A0, cap0, rfl, _, _, _, _, _, _⟩ := hM.out.oh.segz xAz
  clear hC hcl hcl2 hDD hD1 hg1 hM hC2
  go_upto_region 9 with (first | (go_at_call 35; first | ((with_reducible refine HTK.out.mono ?_); rintro x W1 ⟨rfl, hM1, k1⟩; have HT2 := qzL (hM1.take HL.out 59 (by omega) HC2.out); clear hM1 k1) | ((with_reducible refine HT2.out.mono ?_); rintro x W2 ⟨rfl, hM2, k2⟩; have HM2 := qzL hM2; clear hM2 k2)))
  refine xAf ?_
  intro Z hZ
  obtain ⟨g2, hg2⟩ : ∃ g, (g1 && b3) = g := ⟨_, rfl⟩
  rw [hg2] at HM2 hD2
  have hMZ : Hid (Dm w Z N br bg bs bz b2 g2 n (.slice A0 hol.length cap0) (.slice none 0 0) (.slice none 0 0) hol [] []) := by rw [hZ]; exact HM2.out.then_ (wa1 _ _)
  have hIZ : Hid (Z.heap[W2.heap.size]? = some (.stringIter (tBy b1) 0)) := by unfold Hid; rw [hZ]; exact World.iter_heap W2 (tBy b1) 0
  obtain ⟨ki, eki⟩ : ∃ k, W2.heap.size = k := ⟨_, rfl⟩
  have hkN : Hid (w.heap.size ≤ ki) := by have := HM2.out.b.size; unfold Hid; omega
  rw [eki] at hIZ ⊢
  clear hZ eki HM2 HT2 HTK hg2
  obtain ⟨ri, hi, hz0, hz1, hz2⟩ := info_parts (show (Tryz.prog.info? 4).map (fun i => (i.zero, i.size, i.bytes)) = some (some (.bool false), 1, 1) by kernel_rfl)
  go_loopw [] (fun WR => ∃ (pos : Nat) (good : Bool) (vu : Value) (us : List Bool), Hid (Dm w WR N br bg bs bz b2 good n (.slice A0 hol.length cap0) vu (.slice none 0 0) hol us []) ∧ Hid (WR.heap[ki]? = some (.stringIter (tBy b1) pos)) ∧ us.length ≤ pos ∧ us.length ≤ b1.length ∧ Hid (good = (g2 && (b1.take pos).all okc)) ∧ Hid ((b1.take pos).all okc = true → us = (b1.take pos).map (· == 49))) (fun W => b1.length - ipos ki W)
  case atStart => exact ⟨0, g2, _, [], hMZ, hIZ, by simp, by simp, by unfold Hid; simp, by unfold Hid; simp⟩
  case round =>
   clear hMZ hIZ
   obtain ⟨pos, good, vu, us, hM, hI, hu1, hu2, hg, hus⟩ := hrel
   have hip := qzL (ipos_at hI.out)
   by_cases hp : pos < b1.length
   case pos =>
    obtain ⟨r, dd, hdec, hd1, hall, hmap, hr31⟩ := rune_step b1 pos hp
    have hps : pos < (tBy b1).size := by rw [xBe]; exact hp
    have hnx := fun ty => Lib.run_next_any_at (P := Tryz.prog) wr ki (tBy b1) pos ty hI.out hps
    simp only [hdec] at hnx
    have hM1 := qzL (hM.out.iter (pos + dd) hI.out hkN.out)
    have hI1 : Hid ((wr.iterAt ki (tBy b1) (pos + dd)).heap[ki]? = some (.stringIter (tBy b1) (pos + dd))) := Lib.iterAt_heap wr ki (tBy b1) pos (pos + dd) hI.out
    have HALL := qzL hall
    have HMAP := qzL hmap
    obtain ⟨V, hV⟩ : ∃ V, wr.iterAt ki (tBy b1) (pos + dd) = V := ⟨_, rfl⟩
    rw [hV] at hM1 hI1
    simp only [hV] at hnx
    obtain ⟨A1, cap1, rfl, _, _, _, _, _, _⟩ := hM1.out.ou.segz xBd
    have kg : V.cell? ⟨bg, 0, none⟩ = some (.bool good) := hM1.out.g.cell 0
    have fg : V.frozen? ⟨bg, 0, none⟩ = false := hM1.out.g.frozen 0
    clear hV hall hmap hdec hM hI hps
    obtain ⟨v48, h48⟩ : ∃ b, decide ((r : Int) = 48) = b := ⟨_, rfl⟩
    obtain ⟨v49, h49⟩ : ∃ b, decide ((r : Int) = 49) = b := ⟨_, rfl⟩
    rw [h48, h49] at HALL
    rw [h49] at HMAP
    have t48 : (((r : Nat) : Int) == 48) = v48 := h48
    have t49 : (((r : Nat) : Int) == 49) = v49 := h49
    clear h48 h49
    go_upto_region 11 with (fail)
    go_cut [] from 45 to 53 (fun W => ∃ x : Bool, Hid (x = (good && (v48 || v49))) ∧ Hid (Dm w W N br bg bs bz b2 x n (.slice A0 hol.length cap0) (.slice A1 us.length cap1) (.slice none 0 0) hol us []) ∧ Hid (W.heap[ki]? = some (.stringIter (tBy b1) (pos + dd))))
    case first =>
     have nbk : bg ≠ ki := hM1.out.g.iter_ne hI1.out
     cases good with
     | false =>
      go_wp2
      go_meet
      case rel => exact ⟨false, rfl, hM1.out.setG false, (((Upd.refl V bg).setCell 0 (.bool false)).f ki nbk.symm).trans hI1.out⟩
     | true =>
      cases v48 with
      | true =>
       go_wp2
       go_meet
       case rel => exact ⟨true, rfl, hM1.out.setG true, (((Upd.refl V bg).setCell 0 (.bool true)).f ki nbk.symm).trans hI1.out⟩
      | false =>
       go_wp2
       go_meet
       case rel => exact ⟨v49, rfl, hM1.out.setG v49, (((Upd.refl V bg).setCell 0 (.bool v49)).f ki nbk.symm).trans hI1.out⟩
    case rest =>
     obtain ⟨x, hx, hMU, hIU⟩ := hcut
     clear hM1 hI1 kg fg hnx
     have ks : wc.cell? ⟨bs, 2, none⟩ = some (.slice A1 us.length cap1) := hMU.out.s.cell 2
     have HUO := qzL hMU.out.ou
     have lNc : N ≤ wc.heap.size := hMU.out.l.2.1
     have hkv := fun z (hz : (Value.slice A1 us.length cap1).ownBlock = some z) => hMU.out.ou.iter_ne hIU.out hz
     have HKV := qzL hkv
     have hkl : ki < wc.heap.size := (Array.getElem?_eq_some_iff.1 hIU.out).1
     clear hkv
     go_wp2_with (at_builtin; go_loud (refine xA8 _ rfl (.tmp 55) (.tmp 58) _ rfl N 4 ri _ 1 1 Tryz.underlying40 hi hz0 hz1 hz2 rfl (by omega) (by omega) eB xBd xGy _ us rfl (HUO.out.alloc _) (by omega) wc.heap.size 1 v49 rfl (Blk.new _ _ _) (by simp; omega) ?_); intro v' w4 hO4 hb4 hg4; obtain ⟨A', cap', rfl, _, _, _, _, _, _⟩ := hO4.segz xBd; have hM4 := qzL ((hMU.out.then_ (wa1 wc (.cells #[.bool v49] 4))).putU hO4 hg4 hb4); have hI4 : Hid (w4.heap[ki]? = some (.stringIter (tBy b1) (pos + dd))) := ((hg4.block ki (by simp; omega) (fun e => HKV.out ki e.symm rfl)).trans ((wa1 wc (.cells #[.bool v49] 4)).block ki hkl)).trans hIU.out; have s4 := ((hMU.out.then_ (wa1 wc (.cells #[.bool v49] 4))).grow ((hMU.out.then_ (wa1 wc (.cells #[.bool v49] 4))).ou) (.inr (.inl rfl)) hg4 hb4).2.2.1; have fs : w4.frozen? ⟨bs, 2, none⟩ = false := s4.frozen 2; have ks4 : w4.cell? ⟨bs, 2, none⟩ = some (.slice A1 us.length cap1) := s4.cell 2; have nsk : Hid (bs ≠ ki) := s4.iter_ne hI4.out; clear hO4 hb4 hg4 s4)
     have hle : (us ++ [v49]).length = us.length + 1 := by rw [List.length_append]; rfl
     rw [hle] at hM4
     have hI5 := (((Upd.refl w4 bs).setCell 2 (.slice A' (us.length + 1) cap')).f ki nsk.out.symm).trans hI4.out
     refine ⟨⟨pos + dd, x, _, us ++ [v49], hM4, hI5, by rw [hle]; omega, by rw [hle]; omega, ?_, ?_⟩, ?_⟩
     ·unfold Hid
      rw [hx.out, hg.out, HALL.out, Bool.and_assoc]
     ·intro ha
      rw [HMAP.out ha]
      have h2 := ha
      rw [HALL.out, Bool.and_eq_true] at h2
      rw [← hus.out h2.1]
     ·rw [ipos_at hI5, hip.out]
      omega
   have hps : ¬ pos < (tBy b1).size := by rw [xBe]; exact hp
   have hnx := fun ty => Lib.run_next_end_at (P := Tryz.prog) wr ki (tBy b1) pos ty hI.out hps
   have hD3 : Hid ((good = true → D = xEt (t.length + 1) n hol us [] b2) ∧ (good = false → D = none)) := by
    have h1 := hg.out
    have h2 := hus.out
    rw [List.take_of_length_le (by omega)] at h1 h2
    have hdu : decU b1 = if b1.all okc = true then some (b1.map (· == 49)) else none := rfl
    constructor
    ·intro e
     rw [h1, Bool.and_eq_true] at e
     rw [hD2.out.1 e.1, hdu, if_pos e.2, Option.bind_some, h2 e.2]
    ·intro e
     rw [h1] at e
     cases hgd : g2 with
     | false => exact hD2.out.2 hgd
     | true =>
      rw [hgd, Bool.true_and] at e
      rw [hD2.out.1 hgd, hdu, if_neg (by rw [e]; decide)]
      rfl
   clear hg hus hip hI hi hz0 hz1 hz2 hD2
   go_upto_region 13 with (refine stop_b 4 ?_)
   refine ⟨?_⟩
   clear hnx hps
   obtain ⟨A1, cap1, rfl, _, _, _, _, _, _⟩ := hM.out.ou.segz xBd
   obtain ⟨ri, hi, hz0, hz1, hz2⟩ := info_parts (show (Tryz.prog.info? 46).map (fun i => (i.zero, i.size, i.bytes)) = some (some (.agg #[.int .i64 0, .int .i64 0, .int .i64 0, .int .i64 0, .bool false]), 5, 40) by kernel_rfl)
   go_cut [] from 61 to 96 (fun W => ∃ (rest : List UInt8) (good : Bool) (vm : Value) (ms : List Mk), Hid (Dm w W N br bg bs bz rest good n (.slice A0 hol.length cap0) (.slice A1 us.length cap1) vm hol us ms) ∧ ms.length ≤ t.length + 1 ∧ Hid ((good = true → D = some ⟨n, hol, us, ms⟩) ∧ (good = false → D = none)))
   case first =>
    go_upto_region 13 with (fail)
    go_loopw [] (fun WR => ∃ (rest : List UInt8) (good : Bool) (vm : Value) (ms : List Mk), Hid (Dm w WR N br bg bs bz rest good n (.slice A0 hol.length cap0) (.slice A1 us.length cap1) vm hol us ms) ∧ rest.length ≤ t.length ∧ ms.length ≤ t.length + 1 ∧ Hid (good = true → ms.length + rest.length ≤ t.length) ∧ Hid ((good = true → D = xEt (t.length + 1) n hol us ms rest) ∧ (good = false → D = none))) (fun W => xH6 bg br W)
    case atStart => exact ⟨b2, good, _, [], hM, by omega, by simp, qzL (fun _ => by simp; omega), hD3⟩
    case round =>
     clear hM hD3
     obtain ⟨rest, good, vm, ms, hM, hl5, hl6, hl7, hDD⟩ := hrel
     have HGM : Hid (good = true → xH6 bg br wr = rest.length + 1) := fun e => xDj (e ▸ hM.out.g) hM.out.r
     have kg : wr.cell? ⟨bg, 0, none⟩ = some (.bool good) := hM.out.g.cell 0
     have kr : wr.cell? ⟨br, 0, none⟩ = some (.string (tBy rest)) := hM.out.r.cell 0
     cases good with
     | false =>
      go_wp2
      go_meet
      case rel => exact ⟨rest, false, vm, ms, hM, hl6, qzL ⟨fun h => (by cases h), fun _ => hDD.out.2 (by trivial)⟩⟩
     | true =>
     by_cases hre : rest = []
     ·have te : ((tBy rest).toList == []) = true := by rw [ByteArray.toList_eq]; simp [xDw, hre]
      have te' : ((tBy rest).toList != []) = false := by simp [bne, te]
      have HRE := qzL hre
      clear hre
      go_wp2
      go_meet
      case rel =>
       refine ⟨rest, true, vm, ms, hM, hl6, qzL ⟨fun _ => ?_, fun h => (by cases h)⟩⟩
       rw [hDD.out.1 (by trivial), HRE.out]
       exact cont3_end (by omega)
     ·have te : ((tBy rest).toList == []) = false := by rw [ByteArray.toList_eq]; simp [xDw, hre]
      have te' : ((tBy rest).toList != []) = true := by simp [bne, te]
      have HRE := qzL hre
      clear hre
      go_upto_region 14 with (fail)
      clear te te' kg kr
      obtain ⟨⟨a1, r1, f1⟩, hC1⟩ : ∃ C, Lib.cut rest [46] = C := ⟨_, rfl⟩
      obtain ⟨⟨a2, r2, f2⟩, hC2⟩ : ∃ C, Lib.cut r1 [46] = C := ⟨_, rfl⟩
      obtain ⟨⟨a3, r3, f3⟩, hC3⟩ : ∃ C, Lib.cut r2 [46] = C := ⟨_, rfl⟩
      obtain ⟨⟨a4, r4, f4⟩, hC4⟩ : ∃ C, Lib.cut r3 [44] = C := ⟨_, rfl⟩
      obtain ⟨⟨l4, p4⟩, hC5⟩ : ∃ C, xCz a4 = C := ⟨_, rfl⟩
      have q1 := xDg rest 46
      have q2 := xDg r1 46
      have q3 := xDg r2 46
      have q4 := xDg r3 44
      have q5 : l4.length ≤ a4.length := by
       have h1 := congrArg (fun x => x.1.length) hC5
       simp only at h1
       rw [← h1]
       unfold xCz
       split
       ·rw [List.length_dropLast]; omega
       ·exact Nat.le_refl _
      have q6 : f1 = true → r1.length < rest.length := by have h1 := xG7 rest 46; rw [hC1] at h1; exact h1
      rw [hC1] at q1; rw [hC2] at q2; rw [hC3] at q3; rw [hC4] at q4
      simp only at q1 q2 q3 q4
      have HST : Hid (xEt (t.length + 1) n hol us ms rest = if (f1 && numO a1 && f2 && numO a2 && f3 && numO a3 && f4 && numO l4) = true then xEt (t.length + 1) n hol us (ms ++ [⟨numD a1, numD a2, numD a3, numD l4, p4⟩]) r4 else none) := cont3_step HRE.out (by omega) hC1 hC2 hC3 hC4 hC5
      have hsx := xH1 a4
      rw [hC5] at hsx
      have hsx1 : Lib.trimSuffix a4 [112] = l4 := congrArg (·.1) hsx
      have hsx2 : Lib.hasSuffix a4 [112] = p4 := congrArg (·.2) hsx
      have HSX : Hid (∀ W, Calls Tryz.prog 41 #[.string (tBy a4), .string ⟨#[112]⟩] W fun e w' => e = .returned (.tuple #[.string (tBy l4), .bool p4]) ∧ w' = W) := fun W => by
       have h1 := Tryz.strings_CutSuffix (tBy a4) ⟨#[112]⟩ W (by rw [xBe]; omega)
       rw [xDw, hsx1, hsx2] at h1
       exact h1
      have HC2 := qzL hC2
      have HC3 := qzL hC3
      have HC4 := qzL hC4
      have HQ6 := qzL q6
      have hl7' := hl7.out (by trivial)
      have HA1 := qzL (hM.out.take HL.out 46 (by omega) hC1)
      clear hC1 hC2 hC3 hC4 hC5 hsx hsx1 hsx2 q6
      go_upto_region 15 with (first
       | (go_at_call 35; (with_reducible refine HA1.out.mono ?_); rintro x W1 ⟨rfl, hM1, k1⟩; have HB1 := qzL (hM1.number HL.out a1 (by omega)); clear hM1 k1 HA1)
       | (go_at_call 37; (with_reducible refine HB1.out.mono ?_); rintro x W2 ⟨n1, rfl, hn1, hM2, k2⟩; have HA2 := qzL (hM2.take HL.out 46 (by omega) HC2.out); have HN1 := qzL hn1; clear hM2 k2 hn1 HB1)
       | (go_at_call 35; (with_reducible refine HA2.out.mono ?_); rintro x W3 ⟨rfl, hM3, k3⟩; have HB2 := qzL (hM3.number HL.out a2 (by omega)); clear hM3 k3 HA2)
       | (go_at_call 37; (with_reducible refine HB2.out.mono ?_); rintro x W4 ⟨n2, rfl, hn2, hM4, k4⟩; have HA3 := qzL (hM4.take HL.out 46 (by omega) HC3.out); have HN2 := qzL hn2; clear hM4 k4 hn2 HB2)
       | (go_at_call 35; (with_reducible refine HA3.out.mono ?_); rintro x W5 ⟨rfl, hM5, k5⟩; have HB3 := qzL (hM5.number HL.out a3 (by omega)); clear hM5 k5 HA3)
       | (go_at_call 37; (with_reducible refine HB3.out.mono ?_); rintro x W6 ⟨n3, rfl, hn3, hM6, k6⟩; have HM6 := qzL hM6; have HN3 := qzL hn3; clear hM6 k6 hn3 HB3))
      refine xAf ?_
      intro Y hY
      have hlt := qzL HM6.out.lts
      have hwm : Hid (w.heap.size ≤ W6.heap.size) := HM6.out.b.size
      have gm : Blk Y W6.heap.size 46 #[.int .i64 n1, .int .i64 n2, .int .i64 n3, .int .i64 0, .bool false] := by rw [hY]; exact Blk.new _ _ _
      have hM7 := qzL (show Dm w Y N br bg bs bz _ _ n _ _ vm hol us ms from by rw [hY]; exact HM6.out.then_ (wa1 _ _))
      obtain ⟨bm, ebm⟩ : ∃ b, W6.heap.size = b := ⟨_, rfl⟩
      rw [ebm] at gm hlt hwm ⊢
      have GM := qzL gm
      have HA4 := qzL (hM7.out.take HL.out 44 (by omega) HC4.out)
      have HM7 := qzL hM7.out
      have nbm : Hid (¬ pRG br bg bm) := by
       rintro (e | e)
       ·exact xAw GM.out hM7.out.r (by decide) e
       ·exact xAw GM.out hM7.out.g (by decide) e
      clear hY ebm gm HM6 hM7
      go_upto_region 17 with (first
       | (go_at_call 35; (with_reducible refine HA4.out.mono ?_); rintro x W8 ⟨rfl, hM8, k8⟩; have HB4 := qzL (hM8.number HL.out l4 (by omega)); have GM8 := qzL (GM.out.kept k8 nbm.out); clear hM8 k8 HA4)
       | (go_at_call 41; (with_reducible refine (HSX.out _).mono ?_); rintro x W9 ⟨rfl, hw9⟩; subst W9)
       | (go_at_call 37; (with_reducible refine HB4.out.mono ?_); rintro x W10 ⟨n4, rfl, hn4, hM10, k10⟩; have HN4 := qzL hn4; have HM10 := qzL hM10; have gm10 := GM8.out.kept k10 nbm.out; have GM10 := qzL gm10; have x3 : W10.frozen? ⟨bm, 3, none⟩ = false := gm10.frozen 3; have x4 : W10.frozen? ⟨bm, 4, none⟩ = false := gm10.frozen 4; have y3 : W10.cell? ⟨bm, 3, none⟩ = some (.int .i64 0) := gm10.cell 3; have y4 : W10.cell? ⟨bm, 4, none⟩ = some (.bool false) := gm10.cell 4; clear hM10 k10 hn4 gm10 HB4))
      refine xAf ?_
      intro U hU
      have uU : Upd W10 U bm := by rw [hU]; exact ((Upd.refl W10 bm).setCell 3 (.int .i64 n4)).setCell 4 (.bool p4)
      have hlt' := hlt.out
      have hMU := qzL (HM10.out.updG uU hwm.out ⟨by omega, by omega, by omega, by omega⟩ (fun x hx => by have := hlt'.2 x hx; omega))
      have gmU : Blk U bm 46 #[.int .i64 n1, .int .i64 n2, .int .i64 n3, .int .i64 n4, .bool p4] := by
       rw [hU]
       have h5 := (GM10.out.set_ 3 (.int .i64 n4)).set_ 4 (.bool p4)
       simpa using h5
      clear hU uU x3 x4 y3 y4 GM10 GM8 GM HM10 hlt' hlt HM7 HSX
      obtain ⟨A2, cap2, rfl, _, _, _, _, _, _⟩ := hMU.out.om.segz xA6
      have ks : U.cell? ⟨bs, 3, none⟩ = some (.slice A2 ms.length cap2) := hMU.out.s.cell 3
      have HMO := qzL hMU.out.om
      have lNc : N ≤ U.heap.size := hMU.out.l.2.1
      go_wp2_with (first | (refine xAi (by rfl) 46 _ rfl bm rfl 46 _ gmU ⟨_, Tryz.underlying46⟩ (by kernel_rfl) ?_; simp only [Act.put, qzG, qzH, qzI]) | (at_builtin; go_loud (refine xA8 _ rfl (.tmp 92) (.tmp 94) _ rfl N 46 ri _ 5 40 Tryz.underlying41 hi hz0 hz1 hz2 rfl (by omega) (by omega) eM xA6 xGx _ ms rfl (HMO.out.alloc _) (by omega) U.heap.size 1 (⟨n1, n2, n3, n4, p4⟩ : Mk) rfl (Blk.new _ _ _) (by simp; omega) ?_); intro v' w4 hO4 hb4 hg4; obtain ⟨A', cap', rfl, _, _, _, _, _, _⟩ := hO4.segz xA6; have hM4 := qzL ((hMU.out.then_ (wa1 U (.cells #[.int .i64 n1, .int .i64 n2, .int .i64 n3, .int .i64 n4, .bool p4] 46))).putM hO4 hg4 hb4); have s4 := ((hMU.out.then_ (wa1 U (.cells #[.int .i64 n1, .int .i64 n2, .int .i64 n3, .int .i64 n4, .bool p4] 46))).grow ((hMU.out.then_ (wa1 U (.cells #[.int .i64 n1, .int .i64 n2, .int .i64 n3, .int .i64 n4, .bool p4] 46))).om) (.inr (.inr rfl)) hg4 hb4).2.2.1; have fs : w4.frozen? ⟨bs, 3, none⟩ = false := s4.frozen 3; have ks4 : w4.cell? ⟨bs, 3, none⟩ = some (.slice A2 ms.length cap2) := s4.cell 3; clear hO4 hb4 hg4 s4))
      have hle : (ms ++ [(⟨n1, n2, n3, n4, p4⟩ : Mk)]).length = ms.length + 1 := by rw [List.length_append]; rfl
      rw [hle] at hM4
      have hgm := HGM.out (by trivial)
      obtain ⟨gd, hgd⟩ : ∃ g, (true && f1 && numO a1 && f2 && numO a2 && f3 && numO a3 && f4 && numO l4) = g := ⟨_, rfl⟩
      rw [hgd] at hM4
      have hgd2 : (f1 && numO a1 && f2 && numO a2 && f3 && numO a3 && f4 && numO l4) = gd := by rw [← hgd, Bool.true_and]
      have hfs : gd = true → f1 = true ∧ numO a1 = true ∧ numO a2 = true ∧ numO a3 = true ∧ numO l4 = true := fun e => by
       rw [e] at hgd2
       simp only [Bool.and_eq_true] at hgd2
       exact ⟨hgd2.1.1.1.1.1.1.1, hgd2.1.1.1.1.1.1.2, hgd2.1.1.1.1.2, hgd2.1.1.2, hgd2.2⟩
      refine ⟨⟨r4, gd, _, ms ++ [⟨n1, n2, n3, n4, p4⟩], hM4, by omega, by rw [hle]; omega, ?_, ?_⟩, ?_⟩
      ·intro e
       have := HQ6.out (hfs e).1
       rw [hle]
       omega
      ·constructor
       ·intro e
        obtain ⟨_, e1, e2, e3, e4⟩ := hfs e
        rw [hDD.out.1 (by trivial), HST.out, hgd2, if_pos e, HN1.out e1, HN2.out e2, HN3.out e3, HN4.out e4]
       ·intro e
        rw [hDD.out.1 (by trivial), HST.out, hgd2, if_neg (by rw [e]; decide)]
      ·rw [hgm]
       cases hgt : gd with
       | true =>
        rw [hgt] at hM4
        rw [xDj hM4.out.g hM4.out.r]
        have := HQ6.out (hfs hgt).1
        omega
       | false =>
        rw [hgt] at hM4
        rw [xFr hM4.out.g]
        omega
   case rest =>
    clear hM hD3
    obtain ⟨rest, good, vm, ms, hM, hl8, hDD⟩ := hcut
    have kg : wc.cell? ⟨bg, 0, none⟩ = some (.bool good) := hM.out.g.cell 0
    have gz := hM.out.z
    have gs := hM.out.s
    have hbz : w.heap.size ≤ bz := by have := hM.out.l; omega
    cases good with
    | false =>
     have hn : Hid (S = zSta ∧ E = 20) := by
      have h1 := HSE.out
      rw [hDD.out.2 rfl] at h1
      exact h1
     clear hDD
     go_wp2_with (refine xAg rfl 43 _ _ rfl bz 43 [] [.int .i64 0, .slice none 0 0, .slice none 0 0, .slice none 0 0] [] [.int .i64 0, .slice none 0 0, .slice none 0 0, .slice none 0 0] rfl rfl gz rfl (by kernel_rfl) (by simp [Value.oneCell']) ?_; intro w5 g5 u5)
     refine bodyPost_ret (res_ct rfl rfl rfl g5 rfl) rfl ?_
     rw [hn.out.1, hn.out.2]
     exact RetS.zero (hM.out.b.trans (u5.b _ hbz))
    | true =>
     have hn : Hid (S = ⟨n, hol, us, ms⟩ ∧ E = 0) := by
      have h1 := HSE.out
      rw [hDD.out.1 rfl] at h1
      exact h1
     clear hDD
     obtain ⟨A2, cap2, rfl, _, _, _, _, _, _⟩ := hM.out.om.segz xA6
     go_wp2_with (first | (refine xAi (by rfl) 43 _ rfl bs rfl 43 _ gs ⟨_, Tryz.underlying43⟩ (by kernel_rfl) ?_; simp only [Act.put, qzG, qzH, qzI]) | (refine xAg rfl 43 _ _ rfl bz 43 [] [.int .i64 0, .slice none 0 0, .slice none 0 0, .slice none 0 0] [] [.int .i64 n, .slice A0 hol.length cap0, .slice A1 us.length cap1, .slice A2 ms.length cap2] rfl rfl gz rfl (by kernel_rfl) (by simp [Value.oneCell']) ?_; intro w5 g5 u5))
     refine bodyPost_ret (res_ct rfl rfl rfl g5 rfl) rfl ?_
     rw [hn.out.1, hn.out.2]
     have lN := hM.out.l
     have o1 := hM.out.oh.upd u5 (fun x hx e => by have := (World.ownsRow.lt hM.out.oh x hx).1; omega)
     have o2 := hM.out.ou.upd u5 (fun x hx e => by have := (World.ownsRow.lt hM.out.ou x hx).1; omega)
     have o3 := hM.out.om.upd u5 (fun x hx e => by have := (World.ownsRow.lt hM.out.om x hx).1; omega)
     obtain ⟨_, _, e1, i1, _, j1, _, m1, t1⟩ := o1.segz xAz
     obtain ⟨_, _, e2, i2, _, j2, _, m2, t2⟩ := o2.segz xBd
     obtain ⟨_, _, e3, i3, _, j3, _, m3, t3⟩ := o3.segz xA6
     injection e1 with e1 _ f1
     injection e2 with e2 _ f2
     injection e3 with e3 _ f3
     subst e1 f1 e2 f2 e3 f3
     refine ⟨⟨⟨A0, cap0, A1, cap1, A2, cap2⟩, rfl, ⟨j1, j2, j3, ?_, ?_, ?_, i1, i2, i3⟩, ⟨fun a h => Nat.le_trans lN.1 (m1 a h), fun a h => Nat.le_trans lN.1 (m2 a h), fun a h => Nat.le_trans lN.1 (m3 a h)⟩, ⟨t1, t2, t3⟩⟩, hM.out.b.trans (u5.b _ hbz)⟩
     ·show hol.length ≤ 1000000; omega
     ·show us.length ≤ 1000000; omega
     ·show ms.length ≤ 1000000; omega
end Go.Proofs.YtginnonjdbpamaaGreatDoor
