/- Contracts of functions and plain laws, joined: Fe1, Fe2, Fc1. -/
import Derived.Test.YtemkghgcdpmlbaaDoorMb16
import Derived.Test.YtemkghgcdpmlbaaDoorMb17
import Derived.Test.YtemkghgcdpmlbaaDoorMb18
import Derived.Test.YtemkghgcdpmlbaaDoorMb14
/- The walk of the laws' example. -/
namespace Go.Proofs.YtemkghgcdpmlbaaDoor
open Go.RowKit Go.Sort

theorem blk_seg {α : Type} {w : World} {g : Nat} {T : TypeId} {size : Nat} {enc : α → List Value} {xs : List α} (he : ∀ x, (enc x).length = size) (h : Blk w g T (xs.flatMap enc).toArray) : Seg w w.heap.size size enc (some ⟨g, 0, none⟩) xs := fun k x hx => by
  refine ⟨g, 0, rfl, h.lt, fun j u hu => ?_⟩
  have hj : j < size := by rw [← he x]; exact (List.getElem?_eq_some_iff.1 hu).1
  rw [Nat.zero_add, h.cell, List.getElem?_toArray, getElem?_flatMap he xs k j x hx hj]
  exact hu
def Con.ex : Con := { par := 2, hold := [0, 1], un := [], ac := [{ kind := 1, role := 0, give := 0, to_ := -1, unit := -1, lot := (0, 1) }, { kind := 1, role := 0, give := 0, to_ := -1, unit := -1, lot := (0, 1) }, { kind := 1, role := 0, give := 0, to_ := -1, unit := -1, lot := (0, 1) }], cl := [], days := 10, off := [] }
abbrev coZ0 : Array Value := #[.int .i64 0, .slice none 0 0, .slice none 0 0, .slice none 0 0, .slice none 0 0, .int .i64 0, .slice none 0 0]
set_option maxRecDepth 100000 in
set_option maxHeartbeats 3200000 in
theorem example_any (w : World) : Calls Tryd.prog 22 #[] w fun e w' => (∃ m, e = .returned (.agg (coA Con.ex m)) ∧ Cont w' Con.ex m) ∧ Below w.heap.size w w' := by
  go_enter Tryd.func22, Tryd.ntmps22
  go_upto_region 2 with (first | (refine wpList_new 87 elA _ _ rfl rfl rfl rfl rfl rfl _ rfl (by simp [Value.oneCell']) (by simp) rfl ?_; simp only [Act.put, List.setIfInBounds_toArray, List.set_cons_succ, List.set_cons_zero]))
  refine name_wp ?_
  intro X hX
  have gR : Blk X w.heap.size 27 coZ0 := by rw [hX]; exact (blk_at (by simp)).alloc _
  have gA : Blk X (w.heap.size + 1) 87 #[.int .i64 1, .int .i64 0, .int .i64 0, .int .i64 (-1), .int .i64 (-1), .int .i64 0, .int .i64 1] := by rw [hX]; exact blk_at (by simp)
  have HB : Below w.heap.size w X := by rw [hX]; (repeat (first | with_reducible assumption | with_reducible exact Below.refl _ _ | with_reducible refine below_drewN ?_ _ | with_reducible refine Below.drew ?_ | with_reducible refine below_alloc ?_ _ | with_reducible refine Below.setCell ?_ (by first | omega | (simp; done) | (simp; omega)) _ | with_reducible refine below_then ?_ (by with_reducible assumption) | (refine below_then (a := World.drew _) ?_ (by with_reducible assumption))))
  clear hX
  obtain ⟨bA, eA'⟩ : ∃ b, w.heap.size + 1 = b := ⟨_, rfl⟩
  obtain ⟨bR, eR⟩ : ∃ b, w.heap.size = b := ⟨_, rfl⟩
  have lR : w.heap.size ≤ bR := by omega
  have lA : bR < bA := by omega
  rw [eA'] at gA ⊢
  rw [eR] at gR ⊢
  clear eR eA'
  have lX := gR.lt
  have lXA := gA.lt
  have lwX := HB.size
  have gA1 := gA.alloc (.cells #[.int .i64 0, .int .i64 1] 3)
  go_wp2_with (first | (refine wpList_row_w (by rfl) 87 _ rfl bA rfl 87 _ gA1 ⟨_, Tryd.underlying87⟩ (by kernel_rfl) ?_; simp only [Act.put, List.setIfInBounds_toArray, List.set_cons_succ, List.set_cons_zero]) | (refine wpList_store_all rfl 27 _ _ rfl bR 27 [] coZ0.toList [] (coA Con.ex ⟨some ⟨X.heap.size, 0, none⟩, 2, none, 0, some ⟨X.heap.size + 1, 0, none⟩, 3, none, 0, none, 0, []⟩).toList rfl rfl ((gR.alloc _).alloc _) rfl (by kernel_rfl) (by simp [Value.oneCell']) ?_; intro w2 g2 U2))
  have gh := ((Blk.new X 3 #[.int .i64 0, .int .i64 1]).alloc (.cells (Con.ex.ac.flatMap eA).toArray 87)).upd U2 (by omega)
  have ga := (blk_at (w := X.alloc (.cells #[.int .i64 0, .int .i64 1] 3)) (n := X.heap.size + 1) (T := 87) (cs := (Con.ex.ac.flatMap eA).toArray) (by simp)).upd U2 (show X.heap.size + 1 ≠ bR by omega)
  have hh : Seg w2 w2.heap.size 1 eI (some ⟨X.heap.size, 0, none⟩) [0, 1] := blk_seg (xs := [0, 1]) eI_len gh
  have ha : Seg w2 w2.heap.size 7 eA (some ⟨X.heap.size + 1, 0, none⟩) Con.ex.ac := blk_seg (xs := Con.ex.ac) eA_len ga
  refine bodyPost_ret (ret_row rfl rfl g2 ⟨_, Tryd.underlying27⟩ (by kernel_rfl)) rfl ?_
  refine ⟨⟨⟨some ⟨X.heap.size, 0, none⟩, 2, none, 0, some ⟨X.heap.size + 1, 0, none⟩, 3, none, 0, none, 0, []⟩, rfl, ⟨hh, Seg.nil _ _ _ _ _, ha, Seg.nil _ _ _ _ _, Seg.nil _ _ _ _ _, rfl, ?_, ?_, ?_, by decide, by decide, by decide, by decide, by decide, Nat.le_refl _, Nat.le_refl _, Nat.le_refl _, Nat.le_refl _, Nat.le_refl _⟩⟩, ?_⟩
  · intro x hx
    cases hx
  · intro x hx
    cases hx
  · decide
  · exact ((HB.alloc lwX _).alloc (by simp; omega) _).trans (U2.b _ lR)
end Go.Proofs.YtemkghgcdpmlbaaDoor
/- The head's files, facts and texts: what the functions answer at them. -/
namespace Go.Proofs.YtemkghgcdpmlbaaDoor
open Go.RowKit

def xH : Fac := ⟨7, 1, 2, 4, 5, true⟩
def thH : Fac := ⟨3, 0, 0, 9, 0, false⟩
def niH : Fac := ⟨9, 2, 9, 9, 10, false⟩
def exF : Fil := ⟨1, [thH, niH], []⟩
def exA : Fil := ⟨1, [thH, xH, niH], []⟩
def exB : Fil := ⟨1, [thH, xH, niH], [(9, 3)]⟩
def exC : Fil := ⟨1, [thH, xH], []⟩
def exD : Fil := ⟨1, [thH, niH], [(9, 3)]⟩
def t1H : List UInt8 := [102, 97, 99, 116, 32, 55, 32, 49, 32, 50, 32, 52, 32, 53, 32, 49]
def t2H : List UInt8 := [102, 97, 99, 116, 32, 55, 32, 49, 32, 50, 32, 52, 32, 53, 32, 50]
theorem hd1 : exF.putE Con.ex xH = 0 ∧ exF.putF Con.ex xH = exA := ⟨by kernel_rfl, by kernel_rfl⟩
theorem hd2 : exA.ordE Con.ex (9, 3) = 0 ∧ exA.ordF Con.ex (9, 3) = exB := ⟨by kernel_rfl, by kernel_rfl⟩
theorem hd3 : exA.putE Con.ex xH = 9 ∧ exA.putF Con.ex xH = Fil.zero := ⟨by kernel_rfl, by kernel_rfl⟩
theorem hd4 : exA.ordE Con.ex (9, 4) = 14 ∧ exA.ordF Con.ex (9, 4) = Fil.zero := ⟨by kernel_rfl, by kernel_rfl⟩
theorem hd5 : exB.ok Con.ex = true ∧ exB.asOf 9 = exC ∧ exB.open_ = exD := ⟨by kernel_rfl, by kernel_rfl, by kernel_rfl⟩
theorem hd6 : xH.text = t1H := by kernel_rfl
theorem hd7 : prsF t2H = none := by kernel_rfl
theorem hd8 : parF t1H = xH ∧ parE t1H = 0 := ⟨by kernel_rfl, by kernel_rfl⟩
theorem hd9 : parF t2H = Fac.zero ∧ parE t2H = 6 := ⟨by kernel_rfl, by kernel_rfl⟩
theorem lenH : t1H.length ≤ 1000000 ∧ t2H.length ≤ 1000000 := by constructor <;> simp [t1H, t2H]
theorem parse1 (W : World) (h : Lw W) : Calls Tryd.prog 20 #[.string ⟨#[102, 97, 99, 116, 32, 55, 32, 49, 32, 50, 32, 52, 32, 53, 32, 49]⟩] W fun e w' => e = .returned (.tuple #[.agg (fA xH), .int .i64 0]) ∧ Below W.heap.size W w' := by
  have := parse_any t1H W lenH.1 h
  rw [hd8.1, hd8.2] at this
  exact this
theorem parse2 (W : World) (h : Lw W) : Calls Tryd.prog 20 #[.string ⟨#[102, 97, 99, 116, 32, 55, 32, 49, 32, 50, 32, 52, 32, 53, 32, 50]⟩] W fun e w' => e = .returned (.tuple #[.agg (fA Fac.zero), .int .i64 6]) ∧ Below W.heap.size W w' := by
  have := parse_any t2H W lenH.2 h
  rw [hd9.1, hd9.2] at this
  exact this
theorem body1 (W : World) (h : Lw W) : Calls Tryd.prog 21 #[.agg (fA xH)] W fun e w' => e = .returned (.string (tB t1H)) ∧ Below W.heap.size W w' := by
  have := body_any xH W h ⟨by unfold J64 xH; decide, by unfold J64 xH; decide, by unfold J64 xH; decide, by unfold J64 xH; decide, by unfold J64 xH; decide⟩
  rw [hd6] at this
  exact this
theorem hb1 : ((tB t1H).toList == [102, 97, 99, 116, 32, 55, 32, 49, 32, 50, 32, 52, 32, 53, 32, 49]) = true := by rw [ByteArray.toList_eq]; rfl
end Go.Proofs.YtemkghgcdpmlbaaDoor
/- The walk of file.Put. -/
namespace Go.Proofs.YtemkghgcdpmlbaaDoor
open Go.RowKit Go.Sort

set_option maxRecDepth 100000 in
set_option maxHeartbeats 6400000 in
theorem put_any (c : Con) (m : Cm) (f : Fil) (k : Fm) (x : Fac) (w : World) (h : Cont w c m) (hk : Filt w f k) :
    Calls Tryd.prog 11 #[.agg (coA c m), .agg (flA f k), .agg (fA x)] w fun e w' => RetF w (f.putF c x) (f.putE c x) e w' := by
  obtain ⟨E, eE⟩ : ∃ E, f.putE c x = E := ⟨_, rfl⟩
  obtain ⟨F, eF'⟩ : ∃ F, f.putF c x = F := ⟨_, rfl⟩
  rw [eE, eF']
  have HV := Lib.hid (fun W (hb : Below w.heap.size w W) => fvalid_any c m f k W (h.then_ hb) (hk.then_ hb))
  have HF := Lib.hid (fun W => vfact_any c m x W h.na)
  have HK := Lib.hid hk
  have nf := hk.nf
  have no := hk.no
  have cf_ := hk.cf
  have co_ := hk.co
  have mf_ := hk.mf
  have mo_ := hk.mo
  obtain ⟨V, eV⟩ : ∃ b, f.ok c = b := ⟨_, rfl⟩
  rw [eV] at HV
  have HEE := Lib.hid eE
  have HEF := Lib.hid eF'
  obtain ⟨V2, eV2⟩ : ∃ b, c.facOk x = b := ⟨_, rfl⟩
  rw [eV2] at HF
  have HV1 := Lib.hid eV
  have HV2 := Lib.hid eV2
  have zer : ∀ e : Int, e ≠ 0 → E = e → E = e ∧ F = Fil.zero := fun e h1 h2 => ⟨h2, by rw [← eF']; unfold Fil.putF; rw [if_neg (by rw [eE, h2]; exact h1)]⟩
  have ZER := Lib.hid zer
  clear zer h hk eE eF' eV eV2
  go_enter Tryd.func11, Tryd.ntmps11
  go_upto_region 1 with (fail)
  refine name_wp ?_
  intro X hX
  have gba : Blk X w.heap.size 27 (coA c m) := by rw [hX]; exact (((blk_at (by simp)).alloc _).alloc _).alloc _
  have gbf : Blk X (w.heap.size + 1) 31 (flA f k) := by rw [hX]; exact ((blk_at (by simp)).alloc _).alloc _
  have gbx : Blk X (w.heap.size + 2) 33 (fA x) := by rw [hX]; exact (blk_at (by simp)).alloc _
  have gbr : Blk X (w.heap.size + 3) 31 (zF) := by rw [hX]; exact blk_at (by simp)
  have HB : Below w.heap.size w X := by rw [hX]; (repeat (first | with_reducible assumption | with_reducible exact Below.refl _ _ | with_reducible refine below_drewN ?_ _ | with_reducible refine Below.drew ?_ | with_reducible refine below_alloc ?_ _ | with_reducible refine Below.setCell ?_ (by first | omega | (simp; done) | (simp; omega)) _ | with_reducible refine below_then ?_ (by with_reducible assumption) | (refine below_then (a := World.drew _) ?_ (by with_reducible assumption))))
  clear hX
  obtain ⟨br, ebr⟩ : ∃ b, w.heap.size + 3 = b := ⟨_, rfl⟩
  obtain ⟨bx, ebx⟩ : ∃ b, w.heap.size + 2 = b := ⟨_, rfl⟩
  obtain ⟨bf, ebf⟩ : ∃ b, w.heap.size + 1 = b := ⟨_, rfl⟩
  obtain ⟨ba, eba⟩ : ∃ b, w.heap.size = b := ⟨_, rfl⟩
  have lba : w.heap.size ≤ ba := by omega
  have lbf : w.heap.size ≤ bf := by omega
  have lbx : w.heap.size ≤ bx := by omega
  have lbr : w.heap.size ≤ br := by omega
  have nbabf : ba ≠ bf := by omega
  have nbabx : ba ≠ bx := by omega
  have nbabr : ba ≠ br := by omega
  have nbfbx : bf ≠ bx := by omega
  have nbfbr : bf ≠ br := by omega
  have nbxbr : bx ≠ br := by omega
  rw [ebr] at gbr ⊢
  rw [ebx] at gbx ⊢
  rw [ebf] at gbf ⊢
  rw [eba] at gba ⊢
  clear eba ebf ebx ebr
  have HBX := Lib.hid HB
  clear HB
  have x0 : X.cell? ⟨bx, 0, none⟩ = some (.int .i64 x.ref) := (gbx).cell 0
  have x1 : X.cell? ⟨bx, 1, none⟩ = some (.int .i64 x.act) := (gbx).cell 1
  have x2 : X.cell? ⟨bx, 2, none⟩ = some (.int .i64 x.low) := (gbx).cell 2
  have x3 : X.cell? ⟨bx, 3, none⟩ = some (.int .i64 x.high) := (gbx).cell 3
  have x4 : X.cell? ⟨bx, 4, none⟩ = some (.int .i64 x.filed) := (gbx).cell 4
  have x5 : X.cell? ⟨bx, 5, none⟩ = some (.bool x.sec) := (gbx).cell 5
  cases V with
  | false =>
    have hz : Hid (E = 1 ∧ F = Fil.zero) := ZER.out _ (by decide) (by rw [← HEE.out]; unfold Fil.putE; rw [HV1.out]; rfl)
    clear ZER HEE HEF
    go_upto_region 2 with (first | (refine wpList_row_w (by rfl) 27 _ rfl ba rfl 27 _ gba ⟨_, Tryd.underlying27⟩ (by kernel_rfl) ?_; simp only [Act.put, List.setIfInBounds_toArray, List.set_cons_succ, List.set_cons_zero]) | (refine wpList_row_w (by rfl) 31 _ rfl bf rfl 31 _ gbf ⟨_, Tryd.underlying31⟩ (by kernel_rfl) ?_; simp only [Act.put, List.setIfInBounds_toArray, List.set_cons_succ, List.set_cons_zero]) | (go_at_call 13; (with_reducible refine (HV.out _ HBX.out).mono ?_); rintro e w1 ⟨rfl, hb1⟩; have gr1 := gbr.then_ hb1))
    go_wp2_with ((refine wpList_store_all rfl 31 _ _ rfl br 31 [] zF.toList [] zF.toList rfl rfl gr1 rfl (by kernel_rfl) (by simp [Value.oneCell']) ?_; intro we ge ue))
    refine bodyPost_ret (ret_row2 rfl rfl ge ⟨_, Tryd.underlying31⟩ (by kernel_rfl)) rfl ?_
    exact by rw [(hz.out).1, (hz.out).2]; exact RetF.zero ((HBX.out.trans (hb1.mono HBX.out.size)).trans (ue.b _ lbr))
  | true =>
  cases V2 with
  | false =>
    have hz : Hid (E = 1 ∧ F = Fil.zero) := ZER.out _ (by decide) (by rw [← HEE.out]; unfold Fil.putE; rw [HV1.out, HV2.out]; rfl)
    clear ZER HEE HEF
    go_upto_region 2 with (first | (refine wpList_row_w (by rfl) 27 _ rfl ba rfl 27 _ gba ⟨_, Tryd.underlying27⟩ (by kernel_rfl) ?_; simp only [Act.put, List.setIfInBounds_toArray, List.set_cons_succ, List.set_cons_zero]) | (refine wpList_row_w (by rfl) 31 _ rfl bf rfl 31 _ gbf ⟨_, Tryd.underlying31⟩ (by kernel_rfl) ?_; simp only [Act.put, List.setIfInBounds_toArray, List.set_cons_succ, List.set_cons_zero]) | (go_at_call 13; (with_reducible refine (HV.out _ HBX.out).mono ?_); rintro e w1 ⟨rfl, hb1⟩; have ga1 := gba.then_ hb1; have gx1 := gbx.then_ hb1; clear gba gbf gbx) | (refine wpList_row_w (by rfl) 27 _ rfl ba rfl 27 _ ga1 ⟨_, Tryd.underlying27⟩ (by kernel_rfl) ?_; simp only [Act.put, List.setIfInBounds_toArray, List.set_cons_succ, List.set_cons_zero]) | (refine wpList_row_w (by rfl) 33 _ rfl bx rfl 33 _ gx1 ⟨_, Tryd.underlying33⟩ (by kernel_rfl) ?_; simp only [Act.put, List.setIfInBounds_toArray, List.set_cons_succ, List.set_cons_zero]) | (go_at_call 23; (with_reducible refine (HF.out _).mono ?_); rintro e w2 ⟨rfl, hb2⟩; have gr1 := (gbr.then_ hb1).then_ hb2))
    go_wp2_with ((refine wpList_store_all rfl 31 _ _ rfl br 31 [] zF.toList [] zF.toList rfl rfl gr1 rfl (by kernel_rfl) (by simp [Value.oneCell']) ?_; intro we ge ue))
    refine bodyPost_ret (ret_row2 rfl rfl ge ⟨_, Tryd.underlying31⟩ (by kernel_rfl)) rfl ?_
    exact by rw [(hz.out).1, (hz.out).2]; exact RetF.zero ((HBX.out.trans ((hb1.trans (hb2.mono hb1.size)).mono HBX.out.size)).trans (ue.b _ lbr))
  | true =>
  go_upto_region 3 with (first | (refine wpList_row_w (by rfl) 27 _ rfl ba rfl 27 _ gba ⟨_, Tryd.underlying27⟩ (by kernel_rfl) ?_; simp only [Act.put, List.setIfInBounds_toArray, List.set_cons_succ, List.set_cons_zero]) | (refine wpList_row_w (by rfl) 31 _ rfl bf rfl 31 _ gbf ⟨_, Tryd.underlying31⟩ (by kernel_rfl) ?_; simp only [Act.put, List.setIfInBounds_toArray, List.set_cons_succ, List.set_cons_zero]) | (go_at_call 13; (with_reducible refine (HV.out _ HBX.out).mono ?_); rintro e w1 ⟨rfl, hb1⟩; have ga1 := gba.then_ hb1; have gf1 := gbf.then_ hb1; have gx1 := gbx.then_ hb1; have gr1 := gbr.then_ hb1; have HB1 := Lib.hid (below_then HBX.out hb1); clear gba gbf gbx gbr hb1 x0 x1 x2 x3 x4 x5) | (refine wpList_row_w (by rfl) 27 _ rfl ba rfl 27 _ ga1 ⟨_, Tryd.underlying27⟩ (by kernel_rfl) ?_; simp only [Act.put, List.setIfInBounds_toArray, List.set_cons_succ, List.set_cons_zero]) | (refine wpList_row_w (by rfl) 33 _ rfl bx rfl 33 _ gx1 ⟨_, Tryd.underlying33⟩ (by kernel_rfl) ?_; simp only [Act.put, List.setIfInBounds_toArray, List.set_cons_succ, List.set_cons_zero]) | (go_at_call 23; (with_reducible refine (HF.out _).mono ?_); rintro e w2 ⟨rfl, hb2⟩))
  have gf2 := gf1.then_ hb2
  have gx2 := gx1.then_ hb2
  have gr2 := gr1.then_ hb2
  have HB2 := Lib.hid (below_then HB1.out hb2)
  clear ga1 gf1 gx1 gr1 hb2 HB1 HBX HV HF
  have f0 : w2.cell? ⟨bf, 0, none⟩ = some (.int .i64 f.house) := (gf2).cell 0
  have f1 : w2.cell? ⟨bf, 1, none⟩ = some (.slice k.f f.facts.length k.fc) := (gf2).cell 1
  have f2 : w2.cell? ⟨bf, 2, none⟩ = some (.slice k.o f.ords.length k.oc) := (gf2).cell 2
  have x0 : w2.cell? ⟨bx, 0, none⟩ = some (.int .i64 x.ref) := (gx2).cell 0
  have x1 : w2.cell? ⟨bx, 1, none⟩ = some (.int .i64 x.act) := (gx2).cell 1
  have x2 : w2.cell? ⟨bx, 2, none⟩ = some (.int .i64 x.low) := (gx2).cell 2
  have x3 : w2.cell? ⟨bx, 3, none⟩ = some (.int .i64 x.high) := (gx2).cell 3
  have x4 : w2.cell? ⟨bx, 4, none⟩ = some (.int .i64 x.filed) := (gx2).cell 4
  have x5 : w2.cell? ⟨bx, 5, none⟩ = some (.bool x.sec) := (gx2).cell 5
  have hg := Fil.ok_iff.1 HV1.out
  have HPF := Lib.hid hg.pf
  have HPO := Lib.hid hg.po
  clear hg
  have HRF := Lib.hid (fun W (hb : Below w.heap.size w W) => ref_any k.f k.fc f.facts x.ref W nf ((HK.out.sf.below hb).more hb.size) HPF.out)
  obtain ⟨R, eR⟩ : ∃ R, hasRef f.facts x.ref = R := ⟨_, rfl⟩
  rw [eR] at HRF
  obtain ⟨N, eN⟩ : ∃ N : Nat, lbF f.facts x.ref = N := ⟨_, rfl⟩
  rw [eN] at HRF
  have HR := Lib.hid eR
  have HN := Lib.hid eN
  have hNl : N ≤ f.facts.length := by rw [← eN]; exact (List.takeWhile_sublist _).length_le
  clear eR eN
  go_upto_region 4 with ((go_at_call 24; (with_reducible refine (HRF.out _ HB2.out).mono ?_); rintro e w3 ⟨rfl, hb3⟩))
  have gf3 := gf2.then_ hb3
  have gx3 := gx2.then_ hb3
  have gr3 := gr2.then_ hb3
  have HB3 := Lib.hid (below_then HB2.out hb3)
  clear gf2 gx2 gr2 hb3 HB2 HRF f0 f1 f2 x0 x1 x2 x3 x4 x5
  have f0 : w3.cell? ⟨bf, 0, none⟩ = some (.int .i64 f.house) := (gf3).cell 0
  have f1 : w3.cell? ⟨bf, 1, none⟩ = some (.slice k.f f.facts.length k.fc) := (gf3).cell 1
  have f2 : w3.cell? ⟨bf, 2, none⟩ = some (.slice k.o f.ords.length k.oc) := (gf3).cell 2
  have hlb := HB3.out.size
  cases R with
  | true =>
    have hz : Hid (E = 9 ∧ F = Fil.zero) := ZER.out _ (by decide) (by rw [← HEE.out]; unfold Fil.putE; rw [HV1.out, HV2.out, HR.out]; rfl)
    go_wp2_with ((refine wpList_store_all rfl 31 _ _ rfl br 31 [] zF.toList [] zF.toList rfl rfl gr3 rfl (by kernel_rfl) (by simp [Value.oneCell']) ?_; intro we ge ue))
    refine bodyPost_ret (ret_row2 rfl rfl ge ⟨_, Tryd.underlying31⟩ (by kernel_rfl)) rfl ?_
    exact by rw [(hz.out).1, (hz.out).2]; exact RetF.zero ((HB3.out).trans (ue.b _ lbr))
  | false =>
  by_cases hlen : 4000 ≤ f.facts.length
  case pos =>
    have hz : Hid (E = 3 ∧ F = Fil.zero) := ZER.out _ (by decide) (by rw [← HEE.out]; unfold Fil.putE; rw [HV1.out, HV2.out, HR.out]; simp [hlen])
    have tl : decide (4000 ≤ f.facts.length) = true := decide_eq_true hlen
    go_wp2_with ((refine wpList_store_all rfl 31 _ _ rfl br 31 [] zF.toList [] zF.toList rfl rfl gr3 rfl (by kernel_rfl) (by simp [Value.oneCell']) ?_; intro we ge ue))
    refine bodyPost_ret (ret_row2 rfl rfl ge ⟨_, Tryd.underlying31⟩ (by kernel_rfl)) rfl ?_
    exact by rw [(hz.out).1, (hz.out).2]; exact RetF.zero ((HB3.out).trans (ue.b _ lbr))
  have tl : decide (4000 ≤ f.facts.length) = false := decide_eq_false hlen
  have hok : Hid (E = 0 ∧ F = f.put x) := by
    have e0 : f.putE c x = 0 := put_iff.2 ⟨Fil.ok_iff.1 HV1.out, HV2.out, HR.out, by omega⟩
    exact ⟨HEE.out.symm.trans e0, by rw [← HEF.out]; unfold Fil.putF; rw [if_pos e0]⟩
  clear ZER HEE HEF
  go_upto_region 8 with (fail)
  clear tl
  go_cut [10] from 37 to 42 (fun v W => ∃ q A n, v = .pointer (some ⟨q, 0, none⟩) ∧ Blk W q 31 #[.int .i64 f.house, .slice none 0 0, .slice A f.ords.length n] ∧ Hid (Own W w3.heap.size 35 2 eS (.slice A f.ords.length n) f.ords) ∧ w3.heap.size ≤ q ∧ Below w3.heap.size w3 W)
  case first =>
    refine wp_region_hb (fun w' => Hid (Below w3.heap.size w3 w')) [0, 1, 2, 3, 4, 5, 6] [7] (by kernel_rfl) (by kernel_rfl) (by repeat (first | with_reducible refine panOk_then ?_ | with_reducible refine panOk_block ?_ | exact panOk_body)) (Lib.hid (Below.drew (Below.refl _ _))) (fun hdir hsel hpan hHeld => ?_)
    refine wpHB_take (i := 0) (oi := ⟨some 37, _, _, _, _, _⟩) hdir hsel hpan rfl (by kernel_rfl) (by kernel_rfl) (by kernel_rfl) (Or.inl ⟨by rfl, fun _ _ => by rfl⟩) (by assumption) ?_
    try simp only [Act.put, List.setIfInBounds_toArray, List.set_cons_zero, List.set_cons_succ]
    refine wpHB_take (i := 1) (oi := ⟨some 38, _, _, _, _, _⟩) (v := .int .i64 f.house) hdir hsel hpan rfl (by kernel_rfl) (by kernel_rfl) (by kernel_rfl) (Or.inl ⟨by rfl, fun w hw => by have hc := (gf3.then_ hw.out).cell 0; go_simp⟩) (by assumption) ?_
    try simp only [Act.put, List.setIfInBounds_toArray, List.set_cons_zero, List.set_cons_succ]
    refine wpHB_take (i := 2) (oi := ⟨some 39, _, _, _, _, _⟩) hdir hsel hpan rfl (by kernel_rfl) (by kernel_rfl) (by kernel_rfl) (Or.inl ⟨by rfl, fun _ _ => by rfl⟩) (by assumption) ?_
    try simp only [Act.put, List.setIfInBounds_toArray, List.set_cons_zero, List.set_cons_succ]
    refine wpHB_take (i := 3) (oi := ⟨some 40, _, _, _, _, _⟩) (v := .slice k.o f.ords.length k.oc) hdir hsel hpan rfl (by kernel_rfl) (by kernel_rfl) (by kernel_rfl) (Or.inl ⟨by rfl, fun w hw => by have hc := (gf3.then_ hw.out).cell 2; go_simp⟩) (by assumption) ?_
    try simp only [Act.put, List.setIfInBounds_toArray, List.set_cons_zero, List.set_cons_succ]
    refine wpHB_ready (rs := [4, 6]) (by kernel_rfl) (by simp) ?_
    refine AllHB.cons (by kernel_rfl) (o := ⟨some 41, _, _, _, _, _⟩) rfl (fun K hK => ?_) ?_
    · go_simp
      (go_at_call 25; (with_reducible refine (cloneBef k.o k.oc f.ords _ no ((HK.out.so.below (below_then HB3.out hHeld.out)).more (below_then HB3.out hHeld.out).size) co_).mono ?_); rintro e wa ⟨⟨v, rfl, hO⟩, hba⟩)
      obtain ⟨A, n, rfl, _, _⟩ := hO.segz eS_len
      replace hO := hO.more hHeld.out.size
      try (replace gp := gp.then_ hba)
      refine hK.out _ _ (Lib.hid (below_then hHeld.out hba)) (fun hHeld2 => ?_)
      clear hK K hHeld
      have hHeld := hHeld2
      clear hHeld2
      try simp only [Act.put, List.setIfInBounds_toArray, List.set_cons_zero, List.set_cons_succ]
      refine wpHB_take (i := 5) (oi := ⟨some 42, _, _, _, _, _⟩) (v := .agg #[.int .i64 f.house, .slice none 0 0, .slice A f.ords.length n]) hdir hsel hpan rfl (by kernel_rfl) (by kernel_rfl) (by kernel_rfl) (Or.inl ⟨by rfl, fun w hw => by go_simp⟩) (by assumption) ?_
      try simp only [Act.put, List.setIfInBounds_toArray, List.set_cons_zero, List.set_cons_succ]
      refine wpHB_ready (rs := [6]) (by kernel_rfl) (by simp) ?_
      refine AllHB.cons (by kernel_rfl) (o := ⟨some 10, _, _, _, _, _⟩) rfl (fun K hK => ?_) AllHB.nil
      go_simp
      have lla := hHeld.out.size
      refine name_k ?_
      intro Vp hVp
      obtain ⟨q, eq_, gp, hbp⟩ := (by first | exact list_new2 hVp | exact list_new2 (W := w3.drew) hVp : ∃ b, _)
      try rw [eq_]
      try (have eq2 : w3.heap.size = q := eq_; rw [eq2])
      try (replace hO := hO.below hbp)
      clear hVp
      refine hK.out _ _ (Lib.hid (below_then hHeld.out hbp)) (fun hHeld2 => ?_)
      clear hK K hHeld
      have hHeld := hHeld2
      clear hHeld2
      try simp only [Act.put, List.setIfInBounds_toArray, List.set_cons_zero, List.set_cons_succ]
      refine wpHB_tail (by kernel_rfl) (by kernel_rfl) ?_
      clear hdir hsel hpan
      simp only [opsAt, List.getElem?_toArray, List.getElem?_cons_succ, List.getElem?_cons_zero, Option.toList_some, List.cons_append, List.nil_append]
      go_wp2_with ((refine wpList_store_all rfl 31 _ _ rfl q 31 [] zF.toList [] [.int .i64 f.house, .slice none 0 0, .slice A f.ords.length n] rfl rfl gp rfl (by kernel_rfl) (by simp [Value.oneCell']) ?_; intro w4 g4 u4))
      go_meet
      case rel => exact ⟨q, A, n, rfl, g4, hO.updT u4 gp (by decide), by omega, hHeld.out.trans (u4.b _ (by omega))⟩
    refine AllHB.cons (by kernel_rfl) (o := ⟨some 10, _, _, _, _, _⟩) rfl (fun K hK => ?_) ?_
    · go_simp
      have lla := hHeld.out.size
      refine name_k ?_
      intro Vp hVp
      obtain ⟨q, eq_, gp, hbp⟩ := (by first | exact list_new2 hVp | exact list_new2 (W := w3.drew) hVp : ∃ b, _)
      try rw [eq_]
      try (have eq2 : w3.heap.size = q := eq_; rw [eq2])
      try (replace hO := hO.below hbp)
      clear hVp
      refine hK.out _ _ (Lib.hid (below_then hHeld.out hbp)) (fun hHeld2 => ?_)
      clear hK K hHeld
      have hHeld := hHeld2
      clear hHeld2
      try simp only [Act.put, List.setIfInBounds_toArray, List.set_cons_zero, List.set_cons_succ]
      refine wpHB_ready (rs := [4]) (by kernel_rfl) (by simp) ?_
      refine AllHB.cons (by kernel_rfl) (o := ⟨some 41, _, _, _, _, _⟩) rfl (fun K hK => ?_) AllHB.nil
      go_simp
      (go_at_call 25; (with_reducible refine (cloneBef k.o k.oc f.ords _ no ((HK.out.so.below (below_then HB3.out hHeld.out)).more (below_then HB3.out hHeld.out).size) co_).mono ?_); rintro e wa ⟨⟨v, rfl, hO⟩, hba⟩)
      obtain ⟨A, n, rfl, _, _⟩ := hO.segz eS_len
      replace hO := hO.more hHeld.out.size
      try (replace gp := gp.then_ hba)
      refine hK.out _ _ (Lib.hid (below_then hHeld.out hba)) (fun hHeld2 => ?_)
      clear hK K hHeld
      have hHeld := hHeld2
      clear hHeld2
      try simp only [Act.put, List.setIfInBounds_toArray, List.set_cons_zero, List.set_cons_succ]
      refine wpHB_take (i := 5) (oi := ⟨some 42, _, _, _, _, _⟩) (v := .agg #[.int .i64 f.house, .slice none 0 0, .slice A f.ords.length n]) hdir hsel hpan rfl (by kernel_rfl) (by kernel_rfl) (by kernel_rfl) (Or.inl ⟨by rfl, fun w hw => by go_simp⟩) (by assumption) ?_
      try simp only [Act.put, List.setIfInBounds_toArray, List.set_cons_zero, List.set_cons_succ]
      refine wpHB_tail (by kernel_rfl) (by kernel_rfl) ?_
      clear hdir hsel hpan
      simp only [opsAt, List.getElem?_toArray, List.getElem?_cons_succ, List.getElem?_cons_zero, Option.toList_some, List.cons_append, List.nil_append]
      go_wp2_with ((refine wpList_store_all rfl 31 _ _ rfl q 31 [] zF.toList [] [.int .i64 f.house, .slice none 0 0, .slice A f.ords.length n] rfl rfl gp rfl (by kernel_rfl) (by simp [Value.oneCell']) ?_; intro w4 g4 u4))
      go_meet
      case rel => exact ⟨q, A, n, rfl, g4, hO.updT u4 gp (by decide), by omega, hHeld.out.trans (u4.b _ (by omega))⟩
    exact AllHB.nil
  obtain ⟨q, A, n, rfl, gq, HO, hq, hb4⟩ := hcut
  obtain ⟨w4, rfl⟩ : ∃ W, W = wc := ⟨_, rfl⟩
  have gf4 := gf3.then_ hb4
  have gx4 := gx3.then_ hb4
  have gr4 := gr3.then_ hb4
  have lr3 := gr3.lt
  have HB4 := Lib.hid (below_then HB3.out hb4)
  clear gf3 gx3 gr3 hb4 HB3 f0 f1 f2
  have hs1 : ∀ W : World, (Instr.slice 28 (.slice k.f f.facts.length k.fc) none (some (.int .i64 (N : Nat))) none).run Tryd.prog W = .ok (.slice k.f N k.fc) W := fun W => take_at (size := 6) (by omega) (by kernel_rfl) (fun W => by kernel_rfl) W
  have hs2 : ∀ W : World, (Instr.slice 28 (.slice k.f f.facts.length k.fc) (some (.int .i64 (N : Nat))) none none).run Tryd.prog W = .ok (.slice (subA k.f k.fc N 6) (f.facts.length - N) (k.fc - N)) W := fun W => tail_at (size := 6) (by omega) (by kernel_rfl) (fun W => by kernel_rfl) W
  have HCC := Lib.hid (fun (W : World) (g b1 : Nat) (hb : Below w.heap.size w W) (g1 : Blk W b1 33 (fA x)) (hg : Blk W g 28 #[.slice k.f N k.fc, .slice (some ⟨b1, 0, none⟩) 1 1, .slice (subA k.f k.fc N 6) (f.facts.length - N) (k.fc - N)]) => concat_insF f.facts k.f k.fc N x g b1 W (by omega) hNl cf_ ((HK.out.sf.below hb).more hb.size) g1 hg)
  go_upto_region 9 with (fail)
  refine wp_region_hb (fun w' => Hid (Below w4.heap.size w4 w')) [0, 1, 2, 3, 4, 5, 6, 7, 8, 9] [10, 11, 12, 13] (by kernel_rfl) (by kernel_rfl) (by repeat (first | with_reducible refine panOk_then ?_ | with_reducible refine panOk_block ?_ | exact panOk_body)) (Lib.hid (Below.drew (Below.refl _ _))) (fun hdir hsel hpan hHeld => ?_)
  refine wpHB_take (i := 0) (oi := ⟨some 43, _, _, _, _, _⟩) hdir hsel hpan rfl (by kernel_rfl) (by kernel_rfl) (by kernel_rfl) (Or.inl ⟨by rfl, fun _ _ => by rfl⟩) (by assumption) ?_
  try simp only [Act.put, List.setIfInBounds_toArray, List.set_cons_zero, List.set_cons_succ]
  refine wpHB_take (i := 1) (oi := ⟨some 44, _, _, _, _, _⟩) (v := .slice k.f f.facts.length k.fc) hdir hsel hpan rfl (by kernel_rfl) (by kernel_rfl) (by kernel_rfl) (Or.inl ⟨by rfl, fun w hw => by have hc := (gf4.then_ hw.out).cell 1; go_simp⟩) (by assumption) ?_
  try simp only [Act.put, List.setIfInBounds_toArray, List.set_cons_zero, List.set_cons_succ]
  refine wpHB_take (i := 2) (oi := ⟨some 45, _, _, _, _, _⟩) hdir hsel hpan rfl (by kernel_rfl) (by kernel_rfl) (by kernel_rfl) (Or.inl ⟨by rfl, fun _ _ => by rfl⟩) (by assumption) ?_
  try simp only [Act.put, List.setIfInBounds_toArray, List.set_cons_zero, List.set_cons_succ]
  refine wpHB_take (i := 3) (oi := ⟨some 46, _, _, _, _, _⟩) (v := .slice k.f N k.fc) hdir hsel hpan rfl (by kernel_rfl) (by kernel_rfl) (by kernel_rfl) (Or.inl ⟨by rfl, fun w hw => by have hc := hs1 w; go_simp⟩) (by assumption) ?_
  try simp only [Act.put, List.setIfInBounds_toArray, List.set_cons_zero, List.set_cons_succ]
  refine wpHB_take (i := 4) (oi := ⟨some 47, _, _, _, _, _⟩) hdir hsel hpan rfl (by kernel_rfl) (by kernel_rfl) (by kernel_rfl) (yieldsIf_row (by rfl) 33 _ rfl bx rfl 33 _ (fun w hw => (gx4.then_ hw.out)) ⟨_, Tryd.underlying33⟩ (by kernel_rfl)) (by assumption) ?_
  try simp only [Act.put, List.setIfInBounds_toArray, List.set_cons_zero, List.set_cons_succ]
  refine wpHB_take (i := 6) (oi := ⟨some 49, _, _, _, _, _⟩) hdir hsel hpan rfl (by kernel_rfl) (by kernel_rfl) (by kernel_rfl) (Or.inl ⟨by rfl, fun _ _ => by rfl⟩) (by assumption) ?_
  try simp only [Act.put, List.setIfInBounds_toArray, List.set_cons_zero, List.set_cons_succ]
  refine wpHB_take (i := 7) (oi := ⟨some 50, _, _, _, _, _⟩) (v := .slice k.f f.facts.length k.fc) hdir hsel hpan rfl (by kernel_rfl) (by kernel_rfl) (by kernel_rfl) (Or.inl ⟨by rfl, fun w hw => by have hc := (gf4.then_ hw.out).cell 1; go_simp⟩) (by assumption) ?_
  try simp only [Act.put, List.setIfInBounds_toArray, List.set_cons_zero, List.set_cons_succ]
  refine wpHB_take (i := 8) (oi := ⟨some 51, _, _, _, _, _⟩) hdir hsel hpan rfl (by kernel_rfl) (by kernel_rfl) (by kernel_rfl) (Or.inl ⟨by rfl, fun _ _ => by rfl⟩) (by assumption) ?_
  try simp only [Act.put, List.setIfInBounds_toArray, List.set_cons_zero, List.set_cons_succ]
  refine wpHB_take (i := 9) (oi := ⟨some 52, _, _, _, _, _⟩) (v := .slice (subA k.f k.fc N 6) (f.facts.length - N) (k.fc - N)) hdir hsel hpan rfl (by kernel_rfl) (by kernel_rfl) (by kernel_rfl) (Or.inl ⟨by rfl, fun w hw => by have hc := hs2 w; go_simp⟩) (by assumption) ?_
  try simp only [Act.put, List.setIfInBounds_toArray, List.set_cons_zero, List.set_cons_succ]
  refine wpHB_ready (rs := [5]) (by kernel_rfl) (by simp) ?_
  refine AllHB.cons (by kernel_rfl) (o := ⟨some 48, _, _, _, _, _⟩) rfl (fun K hK => ?_) AllHB.nil
  go_simp
  refine name_k ?_
  intro Vb hVb
  obtain ⟨b1, e1, g1, hbb⟩ := (by first | exact list_new2 hVb | exact list_new2 (W := w4.drew) hVb : ∃ b, _)
  try rw [e1]
  try (have e2 : w4.heap.size = b1 := e1; rw [e2])
  clear hVb
  refine hK.out _ _ (Lib.hid (below_then hHeld.out hbb)) (fun hHeld2 => ?_)
  clear hK K hHeld
  have hHeld := hHeld2
  clear hHeld2
  try simp only [Act.put, List.setIfInBounds_toArray, List.set_cons_zero, List.set_cons_succ]
  refine wpHB_tail (by kernel_rfl) (by kernel_rfl) ?_
  clear hdir hsel hpan
  simp only [opsAt, List.getElem?_toArray, List.getElem?_cons_succ, List.getElem?_cons_zero, Option.toList_some, List.cons_append, List.nil_append]
  clear hs1 hs2
  refine name_wpl ?_
  intro w5 hw5
  have hb5 : Below w4.heap.size w4 w5 := by rw [hw5]; exact hHeld.out
  have g15 : Blk w5 b1 33 (fA x) := by rw [hw5]; exact g1
  clear hw5 hHeld
  have gq5 := gq.then_ hb5
  have gr5 := gr4.then_ hb5
  have HO5 := Lib.hid (HO.out.below hb5)
  have HB5 := Lib.hid (below_then HB4.out hb5)
  have lq := gq.lt
  have lr := gr4.lt
  have s45 := hb5.size
  go_upto_region 10 with ((go_at_call 26; (with_reducible refine (HCC.out _ _ b1 (below_then HB5.out (wa1 _ _)) (g15.then_ (wa1 _ _)) (Blk.new _ _ _)).mono ?_); rintro e w6 ⟨⟨v, rfl, hO6⟩, hb6⟩; obtain ⟨A6, n6, rfl, _⟩ := hO6.segz eF_len; have hb56 := below_then (wa1 w5 _) hb6; have gq6 := gq5.then_ hb56; have HO6 := Lib.hid (hO6.more (wa1 w5 (.cells #[.slice k.f N k.fc, .slice (some ⟨b1, 0, none⟩) 1 1, .slice (subA k.f k.fc N 6) (f.facts.length - N) (k.fc - N)] 28)).size); clear hO6; have hq1 : w6.cell? ⟨q, 1, none⟩ = some (.slice none 0 0) := gq6.cell 1; have hqf : w6.frozen? ⟨q, 1, none⟩ = false := gq6.frozen 1))
  refine name_wp ?_
  intro X7 hX7
  have u7 : Upd w6 X7 q := by rw [hX7]; exact (Upd.refl _ _).setCell 1 _
  have gq7 : Blk X7 q 31 #[.int .i64 f.house, .slice A6 (insA f.facts N x).length n6, .slice A f.ords.length n] := by rw [hX7]; exact gq6.set_ 1 _
  have gr7 : Blk X7 br 31 zF := (gr5.then_ hb56).upd u7 (by omega)
  have HO7 := Lib.hid (HO6.out.updT u7 gq6 (by decide))
  have HP7 := Lib.hid ((HO5.out.below hb56).updT u7 gq6 (by decide))
  have HB7 := Lib.hid ((below_then HB5.out hb56).trans (u7.b _ (by have := HB4.out.size; omega)))
  clear hX7 u7 gq6 hq1 hqf HO6 HO5 hb6 hb56 gr5 gq5 HCC
  go_wp2_with (first | (refine wpList_row_w (by rfl) 31 _ rfl q rfl 31 _ gq7 ⟨_, Tryd.underlying31⟩ (by kernel_rfl) ?_; simp only [Act.put, List.setIfInBounds_toArray, List.set_cons_succ, List.set_cons_zero]) | (refine wpList_store_all rfl 31 _ _ rfl br 31 [] zF.toList [] [.int .i64 f.house, .slice A6 (insA f.facts N x).length n6, .slice A f.ords.length n] rfl rfl gr7 rfl (by kernel_rfl) (by simp [Value.oneCell']) ?_; intro we ge ue))
  refine bodyPost_ret (ret_row2 rfl rfl ge ⟨_, Tryd.underlying31⟩ (by kernel_rfl)) rfl ?_
  rw [hok.out.1, hok.out.2]
  have e9 : f.put x = { f with facts := insA f.facts N x } := by unfold Fil.put; rw [HN.out]
  have h9 := filt_own (F := { f with facts := insA f.facts N x }) ((HO7.out.updT ue gr7 (by decide)).more (B' := w.heap.size) (by have := HB5.out.size; omega)) ((HP7.out.updT ue gr7 (by decide)).more (by omega)) (by show (insA f.facts N x).length ≤ _; rw [insA_len]; omega) no
  rw [e9]
  exact ⟨⟨_, rfl, h9.1, h9.2⟩, HB7.out.trans (ue.b _ lbr)⟩
end Go.Proofs.YtemkghgcdpmlbaaDoor
