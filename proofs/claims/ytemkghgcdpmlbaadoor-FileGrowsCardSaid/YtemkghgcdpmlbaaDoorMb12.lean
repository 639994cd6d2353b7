/- Contracts of functions and plain laws, joined: Fb5, Own2. -/
import Derived.Test.YtemkghgcdpmlbaaDoorMb6
import Derived.Test.YtemkghgcdpmlbaaDoorMb11
import Derived.Test.YtemkghgcdpmlbaaDoorMb5
/- The walk of file.Valid at every file in memory. -/
namespace Go.Proofs.YtemkghgcdpmlbaaDoor
open Go.RowKit Go.Sort

theorem wpList_done {P : Program} {ops : Array Oper} {Q : Exit → Act → World → Prop} {a : Act} {w : World} (h : Q .normal a w) : wpList P ops Q [] a w := h
theorem elF : ElT Tryd.prog 33 6 := ⟨⟨_, Tryd.underlying33⟩, by kernel_rfl, ⟨.agg #[.int .i64 0, .int .i64 0, .int .i64 0, .int .i64 0, .int .i64 0, .bool false], rfl, fun w => by kernel_rfl⟩⟩
theorem elO : ElT Tryd.prog 35 2 := ⟨⟨_, Tryd.underlying35⟩, by kernel_rfl, ⟨.agg #[.int .i64 0, .int .i64 0], rfl, fun w => by kernel_rfl⟩⟩
/-- the first k facts are valid and increasing -/
def FPre (c : Con) (l : List Fac) (k : Nat) : Prop := ∀ j x, j < k → l[j]? = some x → c.facOk x = true ∧ ∀ i y, j = i + 1 → l[i]? = some y → y.ref < x.ref
theorem FPre.all {c : Con} {l : List Fac} (h : FPre c l l.length) : l.all c.facOk = true ∧ incBy ltF l = true := by
  refine ⟨List.all_eq_true.2 fun x hx => ?_, incBy_iff.2 fun i x y hx hy => ?_⟩
  · obtain ⟨j, hj, rfl⟩ := List.getElem_of_mem hx
    exact (h j _ hj (List.getElem?_eq_getElem hj)).1
  · have := (h (i + 1) y (List.getElem?_eq_some_iff.1 hy).1 hy).2 i x rfl hx
    simp [ltF, this]
theorem FPre.next {c : Con} {l : List Fac} {k : Nat} {x : Fac} (h : FPre c l k) (hx : l[k]? = some x) (h1 : c.facOk x = true) (h2 : ∀ i y, k = i + 1 → l[i]? = some y → y.ref < x.ref) : FPre c l (k + 1) := by
  intro j z hj hz
  by_cases e : j = k
  · subst e
    rw [hx] at hz
    cases hz
    exact ⟨h1, h2⟩
  · exact h j z (by omega) hz
def OPre (l : List Fac) (o : List (Int × Int)) (k : Nat) : Prop := ∀ j x, j < k → o[j]? = some x → ordOk l x = true ∧ ∀ i y, j = i + 1 → o[i]? = some y → ltO y x = true
theorem OPre.all {l : List Fac} {o : List (Int × Int)} (h : OPre l o o.length) : o.all (ordOk l) = true ∧ incBy ltO o = true := by
  refine ⟨List.all_eq_true.2 fun x hx => ?_, incBy_iff.2 fun i x y hx hy => ?_⟩
  · obtain ⟨j, hj, rfl⟩ := List.getElem_of_mem hx
    exact (h j _ hj (List.getElem?_eq_getElem hj)).1
  · exact (h (i + 1) y (List.getElem?_eq_some_iff.1 hy).1 hy).2 i x rfl hx
theorem OPre.next {l : List Fac} {o : List (Int × Int)} {k : Nat} {x : Int × Int} (h : OPre l o k) (hx : o[k]? = some x) (h1 : ordOk l x = true) (h2 : ∀ i y, k = i + 1 → o[i]? = some y → ltO y x = true) : OPre l o (k + 1) := by
  intro j z hj hz
  by_cases e : j = k
  · subst e
    rw [hx] at hz
    cases hz
    exact ⟨h1, h2⟩
  · exact h j z (by omega) hz
theorem all_no {α : Type} {p : α → Bool} {l : List α} {i : Nat} {x : α} (hx : l[i]? = some x) (h : p x = false) : l.all p = false := by
  rw [List.all_eq_false]
  exact ⟨x, List.mem_of_getElem? hx, by rw [h]; simp⟩
theorem inc_no {α : Type} {lt : α → α → Bool} {l : List α} {i : Nat} {x y : α} (hx : l[i]? = some x) (hy : l[i + 1]? = some y) (h : lt x y = false) : incBy lt l = false := by
  cases e : incBy lt l with
  | false => rfl
  | true => rw [incBy_iff.1 e i x y hx hy] at h; cases h
set_option maxRecDepth 100000 in
set_option maxHeartbeats 6400000 in
theorem fvalid_any (c : Con) (m : Cm) (f : Fil) (k : Fm) (w : World) (h : Cont w c m) (hk : Filt w f k) :
    Calls Tryd.prog 13 #[.agg (coA c m), .agg (flA f k)] w fun e w' => e = .returned (.bool (f.ok c)) ∧ Below w.heap.size w w' := by
  obtain ⟨R, hR⟩ : ∃ R, f.ok c = R := ⟨_, rfl⟩
  rw [hR]
  have HR := Lib.hid hR
  have HV := Lib.hid (fun W (hb : Below w.heap.size w W) => valid_c c m W (h.then_ hb))
  have HF := Lib.hid (fun x W => vfact_any c m x W h.na)
  have HRF := Lib.hid (fun (hp : f.facts.Pairwise (fun x y => ltF x y = true)) r W (hb : Below w.heap.size w W) => ref_any k.f k.fc f.facts r W hk.nf ((hk.sf.below hb).more hb.size) hp)
  have HC := Lib.hid (fun x y W => compare_any x y W)
  have HSF := Lib.hid hk.sf
  have HSO := Lib.hid hk.so
  have nf := hk.nf
  have no := hk.no
  clear hR h hk
  go_enter Tryd.func13, Tryd.ntmps13
  go_upto_region 1 with (fail)
  refine name_wp ?_
  intro X hX
  have gba : Blk X w.heap.size 27 (coA c m) := by rw [hX]; exact (blk_at (by simp)).alloc _
  have gbf : Blk X (w.heap.size + 1) 31 (flA f k) := by rw [hX]; exact blk_at (by simp)
  have HB : Below w.heap.size w X := by rw [hX]; (repeat (first | with_reducible assumption | with_reducible exact Below.refl _ _ | with_reducible refine below_drewN ?_ _ | with_reducible refine Below.drew ?_ | with_reducible refine below_alloc ?_ _ | with_reducible refine Below.setCell ?_ (by first | omega | (simp; done) | (simp; omega)) _ | with_reducible refine below_then ?_ (by with_reducible assumption) | (refine below_then (a := World.drew _) ?_ (by with_reducible assumption))))
  clear hX
  obtain ⟨bf, ebf⟩ : ∃ b, w.heap.size + 1 = b := ⟨_, rfl⟩
  obtain ⟨ba, eba⟩ : ∃ b, w.heap.size = b := ⟨_, rfl⟩
  have lba : w.heap.size ≤ ba := by omega
  have lbf : w.heap.size ≤ bf := by omega
  have nbabf : ba ≠ bf := by omega
  rw [ebf] at gbf ⊢
  rw [eba] at gba ⊢
  clear eba ebf
  have HBX := Lib.hid HB
  clear HB
  have a0 : X.cell? ⟨ba, 0, none⟩ = some (.int .i64 c.par) := (gba).cell 0
  have a1 : X.cell? ⟨ba, 1, none⟩ = some (.slice m.h c.hold.length m.hc) := (gba).cell 1
  have a2 : X.cell? ⟨ba, 2, none⟩ = some (.slice m.u c.un.length m.uc) := (gba).cell 2
  have a3 : X.cell? ⟨ba, 3, none⟩ = some (.slice m.a c.ac.length m.ac) := (gba).cell 3
  have a4 : X.cell? ⟨ba, 4, none⟩ = some (.slice m.k c.cl.length m.kc) := (gba).cell 4
  have a5 : X.cell? ⟨ba, 5, none⟩ = some (.int .i64 c.days) := (gba).cell 5
  have a6 : X.cell? ⟨ba, 6, none⟩ = some (.slice m.o c.off.length m.oc) := (gba).cell 6
  have f0 : X.cell? ⟨bf, 0, none⟩ = some (.int .i64 f.house) := (gbf).cell 0
  have f1 : X.cell? ⟨bf, 1, none⟩ = some (.slice k.f f.facts.length k.fc) := (gbf).cell 1
  have f2 : X.cell? ⟨bf, 2, none⟩ = some (.slice k.o f.ords.length k.oc) := (gbf).cell 2
  go_upto_region 2 with (first | (refine wpList_row_w (by rfl) 27 _ rfl ba rfl 27 _ gba ⟨_, Tryd.underlying27⟩ (by kernel_rfl) ?_; simp only [Act.put, List.setIfInBounds_toArray, List.set_cons_succ, List.set_cons_zero]) | (go_at_call 32; (with_reducible refine (HV.out _ HBX.out).mono ?_); rintro e w1 ⟨⟨E, ei, rfl, hE⟩, hb1⟩))
  have HE := Lib.hid hE
  clear hE
  have ga1 := gba.then_ hb1
  have gf1 := gbf.then_ hb1
  have HB1 := Lib.hid (below_then HBX.out hb1)
  clear hb1 gba gbf HBX a0 a1 a2 a3 a4 a5 a6 f0 f1 f2
  have a0 : w1.cell? ⟨ba, 0, none⟩ = some (.int .i64 c.par) := (ga1).cell 0
  have a1 : w1.cell? ⟨ba, 1, none⟩ = some (.slice m.h c.hold.length m.hc) := (ga1).cell 1
  have a2 : w1.cell? ⟨ba, 2, none⟩ = some (.slice m.u c.un.length m.uc) := (ga1).cell 2
  have a3 : w1.cell? ⟨ba, 3, none⟩ = some (.slice m.a c.ac.length m.ac) := (ga1).cell 3
  have a4 : w1.cell? ⟨ba, 4, none⟩ = some (.slice m.k c.cl.length m.kc) := (ga1).cell 4
  have a5 : w1.cell? ⟨ba, 5, none⟩ = some (.int .i64 c.days) := (ga1).cell 5
  have a6 : w1.cell? ⟨ba, 6, none⟩ = some (.slice m.o c.off.length m.oc) := (ga1).cell 6
  have f0 : w1.cell? ⟨bf, 0, none⟩ = some (.int .i64 f.house) := (gf1).cell 0
  have f1 : w1.cell? ⟨bf, 1, none⟩ = some (.slice k.f f.facts.length k.fc) := (gf1).cell 1
  have f2 : w1.cell? ⟨bf, 2, none⟩ = some (.slice k.o f.ords.length k.oc) := (gf1).cell 2
  by_cases hE : E = 0
  case neg =>
    have hf : Hid (R = false) := by
      unfold Hid
      rw [← HR.out]
      have : c.ok = false := by
        cases e : c.ok with
        | false => rfl
        | true => exact absurd (HE.out.2 e) hE
      unfold Fil.ok
      rw [this]
      rfl
    have t1 : (E != 0) = true := by simpa using hE
    clear hE
    go_wp2
    go_ret
    exact ⟨ret_bool hf.out.symm, HB1.out⟩
  have hck : Hid (c.ok = true) := HE.out.1 hE
  subst hE
  by_cases h0 : f.house < 0
  case pos =>
    have hf : Hid (R = false) := by
      unfold Hid
      rw [← HR.out]
      unfold Fil.ok
      have : decide (0 ≤ f.house) = false := decide_eq_false (by omega)
      rw [this]
      simp
    go_wp2
    go_ret
    exact ⟨ret_bool hf.out.symm, HB1.out⟩
  by_cases h1 : c.par ≤ f.house
  case pos =>
    have hf : Hid (R = false) := by
      unfold Hid
      rw [← HR.out]
      unfold Fil.ok
      have : decide (f.house < c.par) = false := decide_eq_false (by omega)
      rw [this]
      simp
    go_wp2
    go_ret
    exact ⟨ret_bool hf.out.symm, HB1.out⟩
  go_upto_region 4 with (fail)
  by_cases h2 : 4000 < f.facts.length
  case pos =>
    have hf : Hid (R = false) := by
      unfold Hid
      rw [← HR.out]
      unfold Fil.ok
      have : decide (f.facts.length ≤ 4000) = false := decide_eq_false (by omega)
      rw [this]
      simp
    have t1 : decide (4000 < (f.facts.length : Int)) = true := decide_eq_true (by omega)
    go_wp2
    go_ret
    exact ⟨ret_bool hf.out.symm, HB1.out⟩
  have t1 : decide (4000 < (f.facts.length : Int)) = false := decide_eq_false (by omega)
  by_cases h3 : 4000 < f.ords.length
  case pos =>
    have hf : Hid (R = false) := by
      unfold Hid
      rw [← HR.out]
      unfold Fil.ok
      have : decide (f.ords.length ≤ 4000) = false := decide_eq_false (by omega)
      rw [this]
      simp
    have t2 : decide (4000 < (f.ords.length : Int)) = true := decide_eq_true (by omega)
    go_wp2
    go_ret
    exact ⟨ret_bool hf.out.symm, HB1.out⟩
  have t2 : decide (4000 < (f.ords.length : Int)) = false := decide_eq_false (by omega)
  have HR2 : Hid (R = (f.facts.all c.facOk && incBy ltF f.facts && f.ords.all (ordOk f.facts) && incBy ltO f.ords)) := by
    unfold Hid
    rw [← HR.out]
    unfold Fil.ok
    rw [hck.out, decide_eq_true (show 0 ≤ f.house by omega), decide_eq_true (show f.house < c.par by omega), decide_eq_true (show f.facts.length ≤ 4000 by omega), decide_eq_true (show f.ords.length ≤ 4000 by omega)]
    simp only [Bool.true_and]
  clear HR HE hck h0 h1 h2 h3 HV
  go_upto_region 7 with (fail)
  clear t1 t2
  go_loopw [47] (fun y WR => ∃ (i : Nat), i ≤ f.facts.length ∧ y = .int .i64 i ∧ Hid (FPre c f.facts i) ∧ Hid (Below w1.heap.size w1 WR)) (fun y _ => 2000000 - (intOf y).toNat)
  case atStart => exact ⟨0, by omega, rfl, (fun j x hj => absurd hj (by omega)), Below.refl _ _⟩
  case round =>
    obtain ⟨i, hi', rfl, hpre, hB⟩ := hrel
    have ga2 := ga1.then_ hB.out
    have gf2 := gf1.then_ hB.out
    clear a0 a1 a2 a3 a4 a5 a6 f0 f1 f2
    by_cases hlt : i < f.facts.length
    case neg =>
      have hA : Hid (f.facts.all c.facOk = true ∧ incBy ltF f.facts = true) := by
        have e : i = f.facts.length := by omega
        have := hpre.out
        rw [e] at this
        exact this.all
      have hPW := Lib.hid ((incBy_pw ltF_trans).1 hA.out.2)
      have HR3 : Hid (R = (f.ords.all (ordOk f.facts) && incBy ltO f.ords)) := by unfold Hid; rw [HR2.out, hA.out.1, hA.out.2]; rfl
      have tl : decide ((i : Int) < (f.facts.length : Int)) = false := decide_eq_false (by omega)
      have HBW := Lib.hid (below_then HB1.out hB.out)
      clear hpre hA HR2 HF hB ga1 gf1
      have f0 : wr.cell? ⟨bf, 0, none⟩ = some (.int .i64 f.house) := (gf2).cell 0
      have f1 : wr.cell? ⟨bf, 1, none⟩ = some (.slice k.f f.facts.length k.fc) := (gf2).cell 1
      have f2 : wr.cell? ⟨bf, 2, none⟩ = some (.slice k.o f.ords.length k.oc) := (gf2).cell 2
      obtain ⟨wo, rfl⟩ : ∃ wo : World, wo = wr := ⟨_, rfl⟩
      go_upto_region 13 with (fail)
      clear tl
      go_loopw [76] (fun y WR => ∃ (i : Nat), i ≤ f.ords.length ∧ y = .int .i64 i ∧ Hid (OPre f.facts f.ords i) ∧ Hid (Below wo.heap.size wo WR)) (fun y _ => 2000000 - (intOf y).toNat)
      case atStart => exact ⟨0, by omega, rfl, (fun j x hj => absurd hj (by omega)), Below.refl _ _⟩
      case round =>
        obtain ⟨q, hq', rfl, hpre, hB⟩ := hrel
        have gf3 := gf2.then_ hB.out
        clear f0 f1 f2
        by_cases hlq : q < f.ords.length
        case neg =>
          have hf : Hid (R = true) := by
            unfold Hid
            have e : q = f.ords.length := by omega
            have := hpre.out
            rw [e] at this
            rw [HR3.out, this.all.1, this.all.2]
            rfl
          have tl : decide ((q : Int) < (f.ords.length : Int)) = false := decide_eq_false (by omega)
          go_wp2
          go_ret
          exact ⟨ret_bool hf.out.symm, below_then HBW.out hB.out⟩
        obtain ⟨x, hx⟩ : ∃ x, f.ords[q]? = some x := ⟨_, List.getElem?_eq_getElem hlq⟩
        obtain ⟨b0, o0, e0, hb0, hc0⟩ := segAt ((HSO.out.below HBW.out).more HBW.out.size |>.below hB.out) hx
        have hix := fun W => idx_at (t := 29) (size := 2) (cap := k.oc) (len := f.ords.length) e0 hlq (by kernel_rfl) (fun W => by kernel_rfl) W
        have hrg : wr.rangeAt b0 (o0 + q * 2) ([.int .i64 x.1, .int .i64 x.2]) := fun j v hv => hc0 j v hv
        have HX := Lib.hid hx
        have tl : decide ((q : Int) < (f.ords.length : Int)) = true := decide_eq_true (by omega)
        clear hx hc0 e0
        go_upto_region 15 with ((refine wpList_elem4 35 elO _ _ _ _ _ rfl rfl rfl rfl rfl rfl rfl rfl rfl rfl rfl rfl b0 _ rfl ([.int .i64 x.1, .int .i64 x.2]) rfl hrg (by simp [Value.oneCell']) (by decide) (by decide) (by decide) (by simp) (by simp) (.int .i64 ((q : Nat) : Int)) rfl ?_; simp only [Act.put, List.setIfInBounds_toArray, List.set_cons_succ, List.set_cons_zero]))
        refine name_wp ?_
        intro Z hZ
        have gx : Blk Z wr.heap.size 35 (bA x) := by rw [hZ]; exact Blk.new _ _ _
        have hbZ : Below wr.heap.size wr Z := by rw [hZ]; exact wa1 _ _
        obtain ⟨bx, ex⟩ : ∃ b, wr.heap.size = b := ⟨_, rfl⟩
        rw [ex] at gx ⊢
        have gf4 := gf3.then_ hbZ
        have HBZ := Lib.hid (below_then hB.out hbZ)
        clear hZ hbZ hrg hix gf3 ex
        have f0 : Z.cell? ⟨bf, 0, none⟩ = some (.int .i64 f.house) := (gf4).cell 0
        have f1 : Z.cell? ⟨bf, 1, none⟩ = some (.slice k.f f.facts.length k.fc) := (gf4).cell 1
        have f2 : Z.cell? ⟨bf, 2, none⟩ = some (.slice k.o f.ords.length k.oc) := (gf4).cell 2
        have x0 : Z.cell? ⟨bx, 0, none⟩ = some (.int .i64 x.1) := (gx).cell 0
        have x1 : Z.cell? ⟨bx, 1, none⟩ = some (.int .i64 x.2) := (gx).cell 1
        obtain ⟨r1, er1⟩ : ∃ b, hasRef f.facts x.1 = b := ⟨_, rfl⟩
        obtain ⟨r2, er2⟩ : ∃ b, hasRef f.facts x.2 = b := ⟨_, rfl⟩
        have HR1 := Lib.hid (fun W (hb : Below w.heap.size w W) => HRF.out hPW.out x.1 W hb)
        rw [er1] at HR1
        have HRB := Lib.hid (fun W (hb : Below w.heap.size w W) => HRF.out hPW.out x.2 W hb)
        rw [er2] at HRB
        have hor : Hid (ordOk f.facts x = (r1 && r2 && !(x.1 == x.2))) := by unfold Hid ordOk; rw [er1, er2]
        clear er1 er2
        go_upto_region 16 with ((go_at_call 24; (with_reducible refine (HR1.out _ (below_then HBW.out HBZ.out)).mono ?_); rintro e w2 ⟨rfl, hb2⟩))
        have gf5 := gf4.then_ hb2
        have gx5 := gx.then_ hb2
        have HB2 := Lib.hid (below_then HBZ.out hb2)
        clear f0 f1 f2 x0 x1 gf4 gx hb2 HBZ
        have f0 : w2.cell? ⟨bf, 0, none⟩ = some (.int .i64 f.house) := (gf5).cell 0
        have f1 : w2.cell? ⟨bf, 1, none⟩ = some (.slice k.f f.facts.length k.fc) := (gf5).cell 1
        have f2 : w2.cell? ⟨bf, 2, none⟩ = some (.slice k.o f.ords.length k.oc) := (gf5).cell 2
        have x0 : w2.cell? ⟨bx, 0, none⟩ = some (.int .i64 x.1) := (gx5).cell 0
        have x1 : w2.cell? ⟨bx, 1, none⟩ = some (.int .i64 x.2) := (gx5).cell 1
        go_upto_region 17 with ((go_at_call 24; (with_reducible refine (HRB.out _ (below_then HBW.out HB2.out)).mono ?_); rintro e w3 ⟨rfl, hb3⟩))
        have gf6 := gf5.then_ hb3
        have gx6 := gx5.then_ hb3
        have HB3 := Lib.hid (below_then HB2.out hb3)
        clear f0 f1 f2 x0 x1 gf5 gx5 hb3 HB2
        have f0 : w3.cell? ⟨bf, 0, none⟩ = some (.int .i64 f.house) := (gf6).cell 0
        have f1 : w3.cell? ⟨bf, 1, none⟩ = some (.slice k.f f.facts.length k.fc) := (gf6).cell 1
        have f2 : w3.cell? ⟨bf, 2, none⟩ = some (.slice k.o f.ords.length k.oc) := (gf6).cell 2
        have x0 : w3.cell? ⟨bx, 0, none⟩ = some (.int .i64 x.1) := (gx6).cell 0
        have x1 : w3.cell? ⟨bx, 1, none⟩ = some (.int .i64 x.2) := (gx6).cell 1
        have no_ : ordOk f.facts x = false → Hid (R = false) := fun h => by unfold Hid; rw [HR3.out, all_no HX.out h]; rfl
        cases r1 with
        | false =>
          have hf := no_ (by rw [hor.out]; rfl)
          clear no_
          have rg0 := cell_regrown f0
          have rg1 := cell_regrown f1
          have rg2 := cell_regrown f2
          have rg3 := cell_regrown x0
          have rg4 := cell_regrown x1
          refine wp_region_qt [0, 1, 2, 3, 4, 5, 6, 7, 8, 9, 10, 11, 12, 13, 14, 15, 16, 17, 18, 19, 20, 21, 22, 23, 24, 25, 26, 27] [] (by kernel_rfl) (by kernel_rfl) (by repeat (first | with_reducible refine panOk_then ?_ | with_reducible refine panOk_block ?_ | exact panOk_body)) ?_
          simp only [opsAt, List.getElem?_toArray, List.getElem?_cons_succ, List.getElem?_cons_zero, Option.toList_some, List.cons_append, List.nil_append]
          repeat (go_big_quiet_step (fail))
          refine wpQuiet_nil ?_
          intro Y hw2
          have hbY := qt_world hw2
          clear hw2 rg0 rg1 rg2 rg3 rg4
          refine wpList_done ?_
          go_wp2
          go_ret
          exact ⟨ret_bool hf.out.symm, below_then HBW.out (below_then HB3.out hbY)⟩
        | true =>
        cases r2 with
        | false =>
          have hf := no_ (by rw [hor.out]; rfl)
          clear no_
          have rg0 := cell_regrown f0
          have rg1 := cell_regrown f1
          have rg2 := cell_regrown f2
          have rg3 := cell_regrown x0
          have rg4 := cell_regrown x1
          refine wp_region_qt [0, 1, 2, 3, 4, 5, 6, 7, 8, 9, 10, 11, 12, 13, 14, 15, 16, 17, 18, 19, 20, 21, 22, 23, 24, 25, 26, 27] [] (by kernel_rfl) (by kernel_rfl) (by repeat (first | with_reducible refine panOk_then ?_ | with_reducible refine panOk_block ?_ | exact panOk_body)) ?_
          simp only [opsAt, List.getElem?_toArray, List.getElem?_cons_succ, List.getElem?_cons_zero, Option.toList_some, List.cons_append, List.nil_append]
          repeat (go_big_quiet_step (fail))
          refine wpQuiet_nil ?_
          intro Y hw2
          have hbY := qt_world hw2
          clear hw2 rg0 rg1 rg2 rg3 rg4
          refine wpList_done ?_
          go_wp2
          go_ret
          exact ⟨ret_bool hf.out.symm, below_then HBW.out (below_then HB3.out hbY)⟩
        | true =>
        cases teq : (x.1 == x.2) with
        | true =>
          have hf := no_ (by rw [hor.out, teq]; rfl)
          clear no_
          have rg0 := cell_regrown f0
          have rg1 := cell_regrown f1
          have rg2 := cell_regrown f2
          have rg3 := cell_regrown x0
          have rg4 := cell_regrown x1
          refine wp_region_qt [0, 1, 2, 3, 4, 5, 6, 7, 8, 9, 10, 11, 12, 13, 14, 15, 16, 17, 18, 19, 20, 21, 22, 23, 24, 25, 26, 27] [] (by kernel_rfl) (by kernel_rfl) (by repeat (first | with_reducible refine panOk_then ?_ | with_reducible refine panOk_block ?_ | exact panOk_body)) ?_
          simp only [opsAt, List.getElem?_toArray, List.getElem?_cons_succ, List.getElem?_cons_zero, Option.toList_some, List.cons_append, List.nil_append]
          repeat (go_big_quiet_step (fail))
          refine wpQuiet_nil ?_
          intro Y hw2
          have hbY := qt_world hw2
          clear hw2 rg0 rg1 rg2 rg3 rg4
          refine wpList_done ?_
          go_wp2
          go_ret
          exact ⟨ret_bool hf.out.symm, below_then HBW.out (below_then HB3.out hbY)⟩
        | false =>
        have hok : Hid (ordOk f.facts x = true) := by unfold Hid; rw [hor.out, teq]; rfl
        clear no_ hor
        by_cases hi0 : q = 0
        case pos =>
          have hp2 : Hid (OPre f.facts f.ords (q + 1)) := hpre.out.next HX.out hok.out (fun j z e _ => absurd e (by omega))
          have hgt : decide (0 < q) = false := decide_eq_false (by omega)
          clear hi0
          have rg0 := cell_regrown f0
          have rg1 := cell_regrown f1
          have rg2 := cell_regrown f2
          have rg3 := cell_regrown x0
          have rg4 := cell_regrown x1
          refine wp_region_qt [0, 1, 2, 3, 4, 5, 6, 7, 8, 9, 10, 11, 12, 13, 14, 15, 16, 17, 18, 19, 20, 21, 22, 23, 24, 25, 26, 27] [] (by kernel_rfl) (by kernel_rfl) (by repeat (first | with_reducible refine panOk_then ?_ | with_reducible refine panOk_block ?_ | exact panOk_body)) ?_
          simp only [opsAt, List.getElem?_toArray, List.getElem?_cons_succ, List.getElem?_cons_zero, Option.toList_some, List.cons_append, List.nil_append]
          repeat (go_big_quiet_step (fail))
          refine wpQuiet_nil ?_
          intro Y hw2
          have hbY := qt_world hw2
          clear hw2 rg0 rg1 rg2 rg3 rg4
          refine wpList_done ?_
          go_wp2
          go_roundw
          case rel => exact ⟨q + 1, by omega, by simp, hp2, below_then HB3.out hbY⟩
          case measure => simp [intOf]; omega
        obtain ⟨j, hj⟩ : ∃ j, q = j + 1 := ⟨q - 1, by omega⟩
        obtain ⟨y, hy⟩ : ∃ y, f.ords[j]? = some y := ⟨_, List.getElem?_eq_getElem (by omega)⟩
        have hil : j < f.ords.length := by omega
        obtain ⟨b1, o1, e1, hb1, hc1⟩ := segAt (((HSO.out.below HBW.out).more HBW.out.size |>.below HB3.out)) hy
        have hiy := fun W => idx_at (t := 29) (size := 2) (cap := k.oc) (len := f.ords.length) e1 hil (by kernel_rfl) (fun W => by kernel_rfl) W
        have y0 : w3.cell? ⟨b1, o1 + j * 2, none⟩ = some (.int .i64 y.1) := hc1 0 _ rfl
        have y1 : w3.cell? ⟨b1, o1 + j * 2 + 1, none⟩ = some (.int .i64 y.2) := hc1 1 _ rfl
        have hsub : IntKind.i64.wrap ((q : Int) - 1) = (j : Int) := by rw [IntWalk.i64_in _ (by omega)]; omega
        have HY := Lib.hid hy
        have HJ := Lib.hid hj
        have hgt : decide (0 < q) = true := decide_eq_true (by omega)
        obtain ⟨v, ev⟩ : ∃ v, cmpO y x = v := ⟨_, rfl⟩
        have HCV := Lib.hid (HC.out y x)
        rw [ev] at HCV
        have HEV := Lib.hid ev
        clear hy hc1 e1 hi0 hj ev
        by_cases hlo : 0 ≤ v
        · have hf : Hid (R = false) := by
            unfold Hid
            have : ltO y x = false := by
              cases e : ltO y x with
              | false => rfl
              | true => have := cmpO_lt.2 e; rw [HEV.out] at this; omega
            rw [HR3.out, inc_no HY.out (HJ.out ▸ HX.out) this]
            simp
          have tc : decide (0 ≤ v) = true := decide_eq_true hlo
          have rg0 := cell_regrown f0
          have rg1 := cell_regrown f1
          have rg2 := cell_regrown f2
          have rg3 := cell_regrown x0
          have rg4 := cell_regrown x1
          have rg5 := cell_regrown y0
          have rg6 := cell_regrown y1
          refine wp_region_qt [0, 1, 2, 3, 4, 5, 6, 7, 8, 9, 10, 11, 12, 13, 14, 15, 16, 17, 18, 19, 20, 21, 22, 23, 24, 25, 26, 27] [] (by kernel_rfl) (by kernel_rfl) (by repeat (first | with_reducible refine panOk_then ?_ | with_reducible refine panOk_block ?_ | exact panOk_body)) ?_
          simp only [opsAt, List.getElem?_toArray, List.getElem?_cons_succ, List.getElem?_cons_zero, Option.toList_some, List.cons_append, List.nil_append]
          repeat (go_big_quiet_step ((go_at_call 29; with_reducible exact qt_call (fun W' _ => HCV.out W') _ _)))
          refine wpQuiet_nil ?_
          intro Y hw2
          have hbY := qt_world hw2
          clear hw2 rg0 rg1 rg2 rg3 rg4 rg5 rg6
          refine wpList_done ?_
          go_wp2
          go_ret
          exact ⟨ret_bool hf.out.symm, below_then HBW.out (below_then HB3.out hbY)⟩
        · have hp2 : Hid (OPre f.facts f.ords (q + 1)) := hpre.out.next HX.out hok.out (fun j' z e hz => by
            obtain rfl : j' = j := by have := HJ.out; omega
            have h5 := HY.out.symm.trans hz
            cases h5
            exact cmpO_lt.1 (by rw [HEV.out]; omega))
          have tc : decide (0 ≤ v) = false := decide_eq_false hlo
          have rg0 := cell_regrown f0
          have rg1 := cell_regrown f1
          have rg2 := cell_regrown f2
          have rg3 := cell_regrown x0
          have rg4 := cell_regrown x1
          have rg5 := cell_regrown y0
          have rg6 := cell_regrown y1
          refine wp_region_qt [0, 1, 2, 3, 4, 5, 6, 7, 8, 9, 10, 11, 12, 13, 14, 15, 16, 17, 18, 19, 20, 21, 22, 23, 24, 25, 26, 27] [] (by kernel_rfl) (by kernel_rfl) (by repeat (first | with_reducible refine panOk_then ?_ | with_reducible refine panOk_block ?_ | exact panOk_body)) ?_
          simp only [opsAt, List.getElem?_toArray, List.getElem?_cons_succ, List.getElem?_cons_zero, Option.toList_some, List.cons_append, List.nil_append]
          repeat (go_big_quiet_step ((go_at_call 29; with_reducible exact qt_call (fun W' _ => HCV.out W') _ _)))
          refine wpQuiet_nil ?_
          intro Y hw2
          have hbY := qt_world hw2
          clear hw2 rg0 rg1 rg2 rg3 rg4 rg5 rg6
          refine wpList_done ?_
          go_wp2
          go_roundw
          case rel => exact ⟨q + 1, by omega, by simp, hp2, below_then HB3.out hbY⟩
          case measure => simp [intOf]; omega
    obtain ⟨x, hx⟩ : ∃ x, f.facts[i]? = some x := ⟨_, List.getElem?_eq_getElem hlt⟩
    obtain ⟨b0, o0, e0, hb0, hc0⟩ := segAt ((HSF.out.below HB1.out).more HB1.out.size |>.below hB.out) hx
    have hix := fun W => idx_at (t := 28) (size := 6) (cap := k.fc) (len := f.facts.length) e0 hlt (by kernel_rfl) (fun W => by kernel_rfl) W
    have hrg : wr.rangeAt b0 (o0 + i * 6) ([.int .i64 x.ref, .int .i64 x.act, .int .i64 x.low, .int .i64 x.high, .int .i64 x.filed, .bool x.sec]) := fun j v hv => hc0 j v hv
    have HX := Lib.hid hx
    have tl : decide ((i : Int) < (f.facts.length : Int)) = true := decide_eq_true (by omega)
    clear hx hc0 e0
    go_upto_region 9 with ((refine wpList_elem4 33 elF _ _ _ _ _ rfl rfl rfl rfl rfl rfl rfl rfl rfl rfl rfl rfl b0 _ rfl ([.int .i64 x.ref, .int .i64 x.act, .int .i64 x.low, .int .i64 x.high, .int .i64 x.filed, .bool x.sec]) rfl hrg (by simp [Value.oneCell']) (by decide) (by decide) (by decide) (by simp) (by simp) (.int .i64 ((i : Nat) : Int)) rfl ?_; simp only [Act.put, List.setIfInBounds_toArray, List.set_cons_succ, List.set_cons_zero]))
    refine name_wp ?_
    intro Z hZ
    have gx : Blk Z wr.heap.size 33 (fA x) := by rw [hZ]; exact Blk.new _ _ _
    have hbZ : Below wr.heap.size wr Z := by rw [hZ]; exact wa1 _ _
    obtain ⟨bx, ex⟩ : ∃ b, wr.heap.size = b := ⟨_, rfl⟩
    rw [ex] at gx ⊢
    have ga3 := ga2.then_ hbZ
    have gf3 := gf2.then_ hbZ
    have HBZ := Lib.hid (below_then hB.out hbZ)
    clear hZ hbZ hrg hix ga2 gf2 ex
    have a0 : Z.cell? ⟨ba, 0, none⟩ = some (.int .i64 c.par) := (ga3).cell 0
    have a1 : Z.cell? ⟨ba, 1, none⟩ = some (.slice m.h c.hold.length m.hc) := (ga3).cell 1
    have a2 : Z.cell? ⟨ba, 2, none⟩ = some (.slice m.u c.un.length m.uc) := (ga3).cell 2
    have a3 : Z.cell? ⟨ba, 3, none⟩ = some (.slice m.a c.ac.length m.ac) := (ga3).cell 3
    have a4 : Z.cell? ⟨ba, 4, none⟩ = some (.slice m.k c.cl.length m.kc) := (ga3).cell 4
    have a5 : Z.cell? ⟨ba, 5, none⟩ = some (.int .i64 c.days) := (ga3).cell 5
    have a6 : Z.cell? ⟨ba, 6, none⟩ = some (.slice m.o c.off.length m.oc) := (ga3).cell 6
    have f0 : Z.cell? ⟨bf, 0, none⟩ = some (.int .i64 f.house) := (gf3).cell 0
    have f1 : Z.cell? ⟨bf, 1, none⟩ = some (.slice k.f f.facts.length k.fc) := (gf3).cell 1
    have f2 : Z.cell? ⟨bf, 2, none⟩ = some (.slice k.o f.ords.length k.oc) := (gf3).cell 2
    have x0 : Z.cell? ⟨bx, 0, none⟩ = some (.int .i64 x.ref) := (gx).cell 0
    have x1 : Z.cell? ⟨bx, 1, none⟩ = some (.int .i64 x.act) := (gx).cell 1
    have x2 : Z.cell? ⟨bx, 2, none⟩ = some (.int .i64 x.low) := (gx).cell 2
    have x3 : Z.cell? ⟨bx, 3, none⟩ = some (.int .i64 x.high) := (gx).cell 3
    have x4 : Z.cell? ⟨bx, 4, none⟩ = some (.int .i64 x.filed) := (gx).cell 4
    have x5 : Z.cell? ⟨bx, 5, none⟩ = some (.bool x.sec) := (gx).cell 5
    obtain ⟨vf, evf⟩ : ∃ b, c.facOk x = b := ⟨_, rfl⟩
    have HVX := Lib.hid (HF.out x)
    rw [evf] at HVX
    have HEV := Lib.hid evf
    clear evf
    cases vf with
    | false =>
      have hf : Hid (R = false) := by unfold Hid; rw [HR2.out, all_no HX.out HEV.out]; rfl
      have rg0 := cell_regrown a0
      have rg1 := cell_regrown a1
      have rg2 := cell_regrown a2
      have rg3 := cell_regrown a3
      have rg4 := cell_regrown a4
      have rg5 := cell_regrown a5
      have rg6 := cell_regrown a6
      have rg7 := cell_regrown f1
      have rg8 := cell_regrown x0
      have rg9 := cell_regrown x1
      have rg10 := cell_regrown x2
      have rg11 := cell_regrown x3
      have rg12 := cell_regrown x4
      have rg13 := cell_regrown x5
      refine wp_region_qt [0, 1, 2, 3, 4, 5, 6, 7, 8, 9, 10, 11, 12, 13, 14, 15, 16, 17, 18, 19] [] (by kernel_rfl) (by kernel_rfl) (by repeat (first | with_reducible refine panOk_then ?_ | with_reducible refine panOk_block ?_ | exact panOk_body)) ?_
      simp only [opsAt, List.getElem?_toArray, List.getElem?_cons_succ, List.getElem?_cons_zero, Option.toList_some, List.cons_append, List.nil_append]
      repeat (go_big_quiet_step ((go_at_call 23; with_reducible exact qt_call (fun W' _ => HVX.out W') _ _)))
      refine wpQuiet_nil ?_
      intro Y hw2
      have hbY := qt_world hw2
      clear hw2 rg0 rg1 rg2 rg3 rg4 rg5 rg6 rg7 rg8 rg9 rg10 rg11 rg12 rg13
      refine wpList_done ?_
      go_wp2
      go_ret
      exact ⟨ret_bool hf.out.symm, below_then HB1.out (below_then HBZ.out hbY)⟩
    | true =>
    by_cases hi0 : i = 0
    case pos =>
      have hp2 : Hid (FPre c f.facts (i + 1)) := hpre.out.next HX.out HEV.out (fun q z e _ => absurd e (by omega))
      have hgt : decide (0 < i) = false := decide_eq_false (by omega)
      clear hi0
      have rg0 := cell_regrown a0
      have rg1 := cell_regrown a1
      have rg2 := cell_regrown a2
      have rg3 := cell_regrown a3
      have rg4 := cell_regrown a4
      have rg5 := cell_regrown a5
      have rg6 := cell_regrown a6
      have rg7 := cell_regrown f1
      have rg8 := cell_regrown x0
      have rg9 := cell_regrown x1
      have rg10 := cell_regrown x2
      have rg11 := cell_regrown x3
      have rg12 := cell_regrown x4
      have rg13 := cell_regrown x5
      refine wp_region_qt [0, 1, 2, 3, 4, 5, 6, 7, 8, 9, 10, 11, 12, 13, 14, 15, 16, 17, 18, 19] [] (by kernel_rfl) (by kernel_rfl) (by repeat (first | with_reducible refine panOk_then ?_ | with_reducible refine panOk_block ?_ | exact panOk_body)) ?_
      simp only [opsAt, List.getElem?_toArray, List.getElem?_cons_succ, List.getElem?_cons_zero, Option.toList_some, List.cons_append, List.nil_append]
      repeat (go_big_quiet_step ((go_at_call 23; with_reducible exact qt_call (fun W' _ => HVX.out W') _ _)))
      refine wpQuiet_nil ?_
      intro Y hw2
      have hbY := qt_world hw2
      clear hw2 rg0 rg1 rg2 rg3 rg4 rg5 rg6 rg7 rg8 rg9 rg10 rg11 rg12 rg13
      refine wpList_done ?_
      go_wp2
      go_roundw
      case rel => exact ⟨i + 1, by omega, by simp, hp2, below_then HBZ.out hbY⟩
      case measure => simp [intOf]; omega
    obtain ⟨j, hj⟩ : ∃ j, i = j + 1 := ⟨i - 1, by omega⟩
    obtain ⟨y, hy⟩ : ∃ y, f.facts[j]? = some y := ⟨_, List.getElem?_eq_getElem (by omega)⟩
    have hil : j < f.facts.length := by omega
    obtain ⟨b1, o1, e1, hb1, hc1⟩ := segAt (((HSF.out.below HB1.out).more HB1.out.size |>.below HBZ.out)) hy
    have hiy := fun W => idx_at (t := 28) (size := 6) (cap := k.fc) (len := f.facts.length) e1 hil (by kernel_rfl) (fun W => by kernel_rfl) W
    have y0 : Z.cell? ⟨b1, o1 + j * 6, none⟩ = some (.int .i64 y.ref) := hc1 0 _ rfl
    have hsub : IntKind.i64.wrap ((i : Int) - 1) = (j : Int) := by rw [IntWalk.i64_in _ (by omega)]; omega
    have HY := Lib.hid hy
    have HJ := Lib.hid hj
    have hgt : decide (0 < i) = true := decide_eq_true (by omega)
    clear hy hc1 e1 hi0 hj
    by_cases hlo : x.ref ≤ y.ref
    · have hf : Hid (R = false) := by unfold Hid; rw [HR2.out, inc_no HY.out (HJ.out ▸ HX.out) (by simp [ltF]; omega)]; simp
      have tc : decide (x.ref ≤ y.ref) = true := decide_eq_true hlo
      have rg0 := cell_regrown a0
      have rg1 := cell_regrown a1
      have rg2 := cell_regrown a2
      have rg3 := cell_regrown a3
      have rg4 := cell_regrown a4
      have rg5 := cell_regrown a5
      have rg6 := cell_regrown a6
      have rg7 := cell_regrown f1
      have rg8 := cell_regrown x0
      have rg9 := cell_regrown x1
      have rg10 := cell_regrown x2
      have rg11 := cell_regrown x3
      have rg12 := cell_regrown x4
      have rg13 := cell_regrown x5
      have rg14 := cell_regrown y0
      refine wp_region_qt [0, 1, 2, 3, 4, 5, 6, 7, 8, 9, 10, 11, 12, 13, 14, 15, 16, 17, 18, 19] [] (by kernel_rfl) (by kernel_rfl) (by repeat (first | with_reducible refine panOk_then ?_ | with_reducible refine panOk_block ?_ | exact panOk_body)) ?_
      simp only [opsAt, List.getElem?_toArray, List.getElem?_cons_succ, List.getElem?_cons_zero, Option.toList_some, List.cons_append, List.nil_append]
      repeat (go_big_quiet_step ((go_at_call 23; with_reducible exact qt_call (fun W' _ => HVX.out W') _ _)))
      refine wpQuiet_nil ?_
      intro Y hw2
      have hbY := qt_world hw2
      clear hw2 rg0 rg1 rg2 rg3 rg4 rg5 rg6 rg7 rg8 rg9 rg10 rg11 rg12 rg13 rg14
      refine wpList_done ?_
      go_wp2
      go_ret
      exact ⟨ret_bool hf.out.symm, below_then HB1.out (below_then HBZ.out hbY)⟩
    · have hp2 : Hid (FPre c f.facts (i + 1)) := hpre.out.next HX.out HEV.out (fun q z e hz => by
        obtain rfl : q = j := by have := HJ.out; omega
        have h5 := HY.out.symm.trans hz
        cases h5
        omega)
      have tc : decide (x.ref ≤ y.ref) = false := decide_eq_false hlo
      have rg0 := cell_regrown a0
      have rg1 := cell_regrown a1
      have rg2 := cell_regrown a2
      have rg3 := cell_regrown a3
      have rg4 := cell_regrown a4
      have rg5 := cell_regrown a5
      have rg6 := cell_regrown a6
      have rg7 := cell_regrown f1
      have rg8 := cell_regrown x0
      have rg9 := cell_regrown x1
      have rg10 := cell_regrown x2
      have rg11 := cell_regrown x3
      have rg12 := cell_regrown x4
      have rg13 := cell_regrown x5
      have rg14 := cell_regrown y0
      refine wp_region_qt [0, 1, 2, 3, 4, 5, 6, 7, 8, 9, 10, 11, 12, 13, 14, 15, 16, 17, 18, 19] [] (by kernel_rfl) (by kernel_rfl) (by repeat (first | with_reducible refine panOk_then ?_ | with_reducible refine panOk_block ?_ | exact panOk_body)) ?_
      simp only [opsAt, List.getElem?_toArray, List.getElem?_cons_succ, List.getElem?_cons_zero, Option.toList_some, List.cons_append, List.nil_append]
      repeat (go_big_quiet_step ((go_at_call 23; with_reducible exact qt_call (fun W' _ => HVX.out W') _ _)))
      refine wpQuiet_nil ?_
      intro Y hw2
      have hbY := qt_world hw2
      clear hw2 rg0 rg1 rg2 rg3 rg4 rg5 rg6 rg7 rg8 rg9 rg10 rg11 rg12 rg13 rg14
      refine wpList_done ?_
      go_wp2
      go_roundw
      case rel => exact ⟨i + 1, by omega, by simp, hp2, below_then HBZ.out hbY⟩
      case measure => simp [intOf]; omega
end Go.Proofs.YtemkghgcdpmlbaaDoor
/- More on slices of the call's own: an element of two cells stored; kept below a bound. -/
namespace Go.Proofs.YtemkghgcdpmlbaaDoor
open Go.RowKit

theorem set_flatMap {α : Type} {enc : α → List Value} {a b : Value} {r : α} (he : ∀ x, (enc x).length = 2) (hr : enc r = [a, b]) : ∀ (xs : List α) (k : Nat), k < xs.length → ((xs.flatMap enc).set (k * 2) a).set (k * 2 + 1) b = (xs.set k r).flatMap enc
  | [], k, h => by simp at h
  | x :: xs, 0, _ => by
    have h2 := he x
    match hx : enc x, h2 with
    | [u, v], _ => simp [hx, hr]
  | x :: xs, k + 1, h => by
    have h2 := he x
    have ih := set_flatMap he hr xs k (by simpa using h)
    match hx : enc x, h2 with
    | [u, v], _ =>
      simp only [List.flatMap_cons, hx, List.cons_append, List.nil_append, List.set_cons_succ, show (k + 1) * 2 = k * 2 + 1 + 1 by omega]
      rw [ih]

section
variable {α : Type} {w w' : World} {B : Nat} {T : TypeId} {enc : α → List Value} {xs : List α} {g n cap : Nat}
theorem Own.set2 (h : Own w B T 2 enc (.slice (some ⟨g, 0, none⟩) n cap) xs) (he : ∀ x, (enc x).length = 2) (hn : xs.length = n) {k : Nat} (hk : k < n) {a b : Value} {r : α} (hr : enc r = [a, b]) :
    Own ((w.setCell ⟨g, k * 2, none⟩ a).setCell ⟨g, k * 2 + 1, none⟩ b) B T 2 enc (.slice (some ⟨g, 0, none⟩) n cap) (xs.set k r) := by
  unfold Own at h ⊢
  rw [hn] at h
  have h1 := (World.ownsRow.stored h (k * 2) a).1
  have h2 := (World.ownsRow.stored h1 (k * 2 + 1) b).1
  rw [List.length_set, hn, ← set_flatMap he hr xs k (by omega)]
  exact h2
theorem Own.keepB {size : Nat} {v : Value} {B' : Nat} (h : Own w B T size enc v xs) (hb : Below B' w w') (hg : ∀ k, v.ownBlock = some k → k < B') : Own w' B T size enc v xs := by
  refine ⟨h.1, ?_⟩
  rcases h.2 with h2 | ⟨g, cap, cur, hv, hg', hh, r⟩
  · exact .inl h2
  · exact .inr ⟨g, cap, cur, hv, hg', (hb.block g (hg g (by rw [hv]; rfl))).trans hh, r⟩
theorem Own.setNe {size : Nat} {v : Value} (h : Own w B T size enc v xs) {p : Addr} (hne : ∀ k, v.ownBlock = some k → k ≠ p.block) (u : Value) : Own (w.setCell p u) B T size enc v xs := by
  refine ⟨h.1, ?_⟩
  rcases h.2 with h2 | ⟨g, cap, cur, hv, hg', hh, r⟩
  · exact .inl h2
  · exact .inr ⟨g, cap, cur, hv, hg', (Below.heap_setCell w p u g (hne g (by rw [hv]; rfl))).trans hh, r⟩
theorem Own.cellsAt (h : Own w B T 2 enc (.slice (some ⟨g, 0, none⟩) n cap) xs) (he : ∀ x, (enc x).length = 2) {k : Nat} {x : α} (hx : xs[k]? = some x) {a b : Value} (hr : enc x = [a, b]) :
    w.cell? ⟨g, k * 2, none⟩ = some a ∧ w.cell? ⟨g, k * 2 + 1, none⟩ = some b ∧ w.frozen? ⟨g, k * 2, none⟩ = false ∧ w.frozen? ⟨g, k * 2 + 1, none⟩ = false := by
  have hn : xs.length = n := by
    rcases h.2 with ⟨h1, _⟩ | ⟨_, _, _, h1, _⟩
    · cases h1
    · injection h1 with _ h2 _; exact h2.symm
  have hk : k < xs.length := (List.getElem?_eq_some_iff.1 hx).1
  unfold Own at h
  rw [hn] at h
  have e1 := World.ownsRow.cellAt h (k * 2) (by omega)
  have e2 := World.ownsRow.cellAt h (k * 2 + 1) (by omega)
  have g1 := getElem?_flatMap he xs k 0 x hx (by omega)
  have g2 := getElem?_flatMap he xs k 1 x hx (by omega)
  rw [hr] at g1 g2
  exact ⟨e1.trans g1, e2.trans g2, World.ownsRow.frozenAt h _, World.ownsRow.frozenAt h _⟩
end

/-- the length of a slice value -/
def lenV : Value → Nat | .slice _ n _ => n | _ => 0
theorem lenV_own {α : Type} {w : World} {B : Nat} {T : TypeId} {size : Nat} {enc : α → List Value} {v : Value} {xs : List α} (h : Own w B T size enc v xs) : lenV v = xs.length := by
  rcases h.2 with ⟨h1, h2⟩ | ⟨_, _, _, h1, _⟩
  · rw [h1]; exact h2.symm
  · rw [h1]; rfl
end Go.Proofs.YtemkghgcdpmlbaaDoor
