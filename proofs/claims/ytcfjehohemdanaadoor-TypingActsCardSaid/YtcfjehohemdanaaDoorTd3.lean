/- The laws' example, and one. -/
import Derived.Test.YtcfjehohemdanaaDoorTd2
import Derived.Test.YtcfjehohemdanaaDoorPk3
namespace Go.Proofs.YtcfjehohemdanaaDoor
open Go.RowKit Go.Sort

/-- where the lists of symbols lie, each in a block of its own -/
structure Xs where
  p : Nat
  r : Nat
  u : Nat
  a : Nat
  c : Nat
def cmx (s : Sy) : List Cm := s.cl.map fun c => ⟨c, none, 0⟩
abbrev xsM (x : Xs) (s : Sy) : Sm := ⟨none, 0, some ⟨x.p, 0, none⟩, s.par.length, some ⟨x.r, 0, none⟩, s.ro.length, some ⟨x.u, 0, none⟩, s.un.length, some ⟨x.a, 0, none⟩, s.ac.length, some ⟨x.c, 0, none⟩, s.cl.length, cmx s⟩
structure Exb (w : World) (x : Xs) (s : Sy) : Prop where
  p : Blk w x.p 9 (s.par.flatMap encS).toArray
  r : Blk w x.r 56 (s.ro.flatMap encRo).toArray
  u : Blk w x.u 82 (s.un.flatMap encUn).toArray
  a : Blk w x.a 60 (s.ac.flatMap encAs).toArray
  c : Blk w x.c 51 ((cmx s).flatMap encCl).toArray
theorem Exb.then_ {w w' : World} {x : Xs} {s : Sy} (h : Exb w x s) (hb : Below w.heap.size w w') : Exb w' x s := ⟨h.p.then_ hb, h.r.then_ hb, h.u.then_ hb, h.a.then_ hb, h.c.then_ hb⟩
theorem Exb.sym {w : World} {x : Xs} {s : Sy} (h : Exb w x s) (h0 : s.hol = []) (hc : ∀ c ∈ s.cl, c.c.start = []) : Sym w s (xsM x s) :=
  ⟨by rw [h0]; exact Seg.nil _ _ _ _ _, seg_of (fun _ => rfl) h.p rfl, seg_of (fun _ => rfl) h.r rfl, seg_of (fun _ => rfl) h.u rfl, seg_of (fun _ => rfl) h.a rfl, seg_of (fun _ => rfl) h.c rfl, by simp [cmx, Function.comp_def], fun y hy => by
    simp only [cmx, List.mem_map] at hy
    obtain ⟨c, hc', rfl⟩ := hy
    rw [hc c hc']; exact Seg.nil _ _ _ _ _⟩
/-- what is asked of numbers and lengths, for fixed symbols -/
def okX (s : Sy) : Prop := s.hol = [] ∧ (∀ c ∈ s.cl, c.c.start = []) ∧ s.par.length ≤ 1000 ∧ s.ro.length ≤ 1000 ∧ s.un.length ≤ 1000 ∧ s.ac.length ≤ 1000 ∧ s.cl.length ≤ 1000 ∧ (∀ u ∈ s.un, b64 u.f.1 ∧ b64 u.f.2) ∧ (∀ a ∈ s.ac, b64 a.a.lot.1 ∧ b64 a.a.lot.2) ∧ (∀ c ∈ s.cl, b64 c.c.v.1 ∧ b64 c.c.v.2)
theorem Exb.smb {w : World} {x : Xs} {s : Sy} (h : Exb w x s) (o : okX s) : Smb w s (xsM x s) := by
  obtain ⟨o1, o2, o3, o4, o5, o6, o7, o8, o9, o10⟩ := o
  exact ⟨h.sym o1 o2, Nat.le_refl _, by omega, by omega, by omega, by omega, by omega, by rw [o1]; simp, fun c hc => by rw [o2 c hc]; simp, o8, o9, o10⟩
def tx (l : List UInt8) : ByteArray := ⟨l.toArray⟩
def exC : Cs := { nm := tx [100], pos := 70, wi := ⟨3, false, tx []⟩, gr := ⟨0, false, tx []⟩, c := { kind := 1, role := 0, act := 0, need := 1, start := [], aft := 0, grace := 0, bus := false, fin := false, pause := -1, resume := -1, v := (0, 1), unit := -1, to_ := -1, waived := false } }
def exA1 : As := { nm := tx [100, 111], pos := 50, a := { kind := 1, role := 0, give := 0, to_ := -1, unit := -1, lot := (0, 1) } }
def exA2 : As := { nm := tx [114, 97, 105, 110], pos := 60, a := { kind := 1, role := -1, give := 0, to_ := -1, unit := -1, lot := (0, 1) } }
def exS : Sy := { nm := tx [99], y := 2026, mo := 1, dd := 5, days := 30, wk := (false, false, false, false, false, false, false), hol := [], par := [tx [97]], ro := [⟨tx [115], 0⟩], un := [⟨tx [107, 103], 1, 0, (1, 1)⟩], ac := [exA1, exA2], cl := [exC] }
theorem el18 : ElT Tryd.prog 34 18 := ⟨⟨_, Tryd.underlying34⟩, by kernel_rfl, ⟨.agg #[.string ⟨#[]⟩, .int .i64 0, .int .i64 0, .int .i64 0, .int .i64 0, .bool false, .bool false, .bool false, .bool false, .bool false, .bool false, .bool false, .slice none 0 0, .slice none 0 0, .slice none 0 0, .slice none 0 0, .slice none 0 0, .slice none 0 0], rfl, fun w => by kernel_rfl⟩⟩
theorem blk_at {w : World} {n : Nat} {T : TypeId} {cs : Array Value} (h : n = w.heap.size) : Blk (w.alloc (.cells cs T)) n T cs := h ▸ Blk.new w T cs
set_option maxRecDepth 100000 in
set_option maxHeartbeats 3200000 in
theorem example_any (w : World) : Calls Tryd.prog 17 #[] w fun e w' => ∃ x : Xs, e = .returned (.agg (syA exS (xsM x exS))) ∧ Exb w' x exS ∧ (w.heap.size ≤ x.a ∧ w.heap.size ≤ x.c) ∧ Below w.heap.size w w' := by
  go_enter Tryd.func17, Tryd.ntmps17
  go_upto_region 2 with (fail)
  refine name_wp ?_
  intro X hX
  have gX : Blk X w.heap.size 34 #[.string ⟨#[]⟩, .int .i64 0, .int .i64 0, .int .i64 0, .int .i64 0, .bool false, .bool false, .bool false, .bool false, .bool false, .bool false, .bool false, .slice none 0 0, .slice none 0 0, .slice none 0 0, .slice none 0 0, .slice none 0 0, .slice none 0 0] := by
    rw [hX]; exact (Blk.new _ _ _).alloc _
  have gN : Blk X (w.heap.size + 1) 47 #[.int .i64 0, .int .i64 1] := by rw [hX]; exact blk_new1 _ _ _ _
  have hbX : Below w.heap.size w X := by rw [hX]; exact below_alloc (wa1 _ _) _
  have hsz : w.heap.size + 1 < X.heap.size := gN.lt
  obtain ⟨bN, hbN⟩ : ∃ b, w.heap.size + 1 = b := ⟨_, rfl⟩
  obtain ⟨bS, hbS⟩ : ∃ b, w.heap.size = b := ⟨_, rfl⟩
  rw [hbN] at gN hsz ⊢
  rw [hbS] at gX ⊢
  have n0 : X.cell? ⟨bN, 0, none⟩ = some (.int .i64 0) := gN.cell 0
  have n1 : X.cell? ⟨bN, 1, none⟩ = some (.int .i64 1) := gN.cell 1
  have lS := gX.lt
  have hbX' : Below bS w X := by rw [← hbS]; exact hbX
  have HB := Lib.hid hbX'
  clear hX hbX hbX' hbN n0 n1
  go_wp2_with (first | (refine wpList_row_w (by rfl) 47 _ rfl bN rfl 47 #[.int .i64 0, .int .i64 1] (by (repeat (first | with_reducible assumption | with_reducible exact Blk.new _ _ _ | with_reducible refine Blk.drew ?_ | with_reducible refine Blk.alloc ?_ _ | with_reducible refine Blk.drewN ?_ _ | with_reducible apply Blk.setT0 | with_reducible apply Blk.setT1 | with_reducible refine Blk.far ?_ (by first | (simp; done) | omega | (simp; omega)) _ | with_reducible refine Blk.then_ ?_ (by with_reducible assumption)))) ⟨_, Tryd.underlying47⟩ (by kernel_rfl) ?_; simp only [Act.put, List.setIfInBounds_toArray, List.set_cons_succ, List.set_cons_zero]) | refine wpList_store_blk rfl 34 _ _ rfl rfl bS 34 [] [.string ⟨#[]⟩, .int .i64 0, .int .i64 0, .int .i64 0, .int .i64 0, .bool false, .bool false, .bool false, .bool false, .bool false, .bool false, .bool false, .slice none 0 0, .slice none 0 0, .slice none 0 0, .slice none 0 0, .slice none 0 0, .slice none 0 0] [] _ rfl rfl (by simp only [List.nil_append, List.append_nil]; (repeat (first | with_reducible assumption | with_reducible exact Blk.new _ _ _ | with_reducible refine Blk.drew ?_ | with_reducible refine Blk.alloc ?_ _ | with_reducible refine Blk.drewN ?_ _ | with_reducible apply Blk.setT0 | with_reducible apply Blk.setT1 | with_reducible refine Blk.far ?_ (by first | (simp; done) | omega | (simp; omega)) _ | with_reducible refine Blk.then_ ?_ (by with_reducible assumption)))) rfl (by kernel_rfl) (by simp [Value.oneCell']) ?_)
  have hk := setCells_blk (g := bS) (t := 34) (syA exS (xsM ⟨X.heap.size, X.heap.size + 1, X.heap.size + 1 + 1, X.heap.size + 1 + 1 + 1, X.heap.size + 1 + 1 + 1 + 1⟩ exS)).toList [] [.string ⟨#[]⟩, .int .i64 0, .int .i64 0, .int .i64 0, .int .i64 0, .bool false, .bool false, .bool false, .bool false, .bool false, .bool false, .bool false, .slice none 0 0, .slice none 0 0, .slice none 0 0, .slice none 0 0, .slice none 0 0, .slice none 0 0] [] (((((X.alloc (.cells (exS.par.flatMap encS).toArray 9)).alloc (.cells (exS.ro.flatMap encRo).toArray 56)).alloc (.cells (exS.un.flatMap encUn).toArray 82)).alloc (.cells (exS.ac.flatMap encAs).toArray 60)).alloc (.cells ((cmx exS).flatMap encCl).toArray 51)) rfl
    (by simp only [List.nil_append, List.append_nil]; exact ((((gX.alloc _).alloc _).alloc _).alloc _).alloc _)
  refine bodyPost_ret (ret_row rfl rfl hk ⟨_, Tryd.underlying34⟩ (by kernel_rfl)) rfl ⟨⟨X.heap.size, X.heap.size + 1, X.heap.size + 1 + 1, X.heap.size + 1 + 1 + 1, X.heap.size + 1 + 1 + 1 + 1⟩, rfl, ⟨?_, ?_, ?_, ?_, ?_⟩, ?_, ?_⟩
  · exact setCells_far (by simp; omega) _ _ _ (((((blk_at (by simp)).alloc _).alloc _).alloc _).alloc _)
  · exact setCells_far (by simp; omega) _ _ _ ((((blk_at (by simp)).alloc _).alloc _).alloc _)
  · exact setCells_far (by simp; omega) _ _ _ (((blk_at (by simp)).alloc _).alloc _)
  · exact setCells_far (by simp; omega) _ _ _ ((blk_at (by simp)).alloc _)
  · exact setCells_far (by simp; omega) _ _ _ (blk_at (by simp))
  · simp; omega
  · rw [hbS]
    exact setCells_below (Nat.le_refl _) _ _ _ (((((HB.out.alloc (by omega) _).alloc (by simp; omega) _).alloc (by simp; omega) _).alloc (by simp; omega) _).alloc (by simp; omega) _)
theorem ret_one {a b : Bool} (h : a = b) : Ending.returned (.bool a) = .returned (.bool b) := by rw [h]
set_option maxRecDepth 100000 in
set_option maxHeartbeats 3200000 in
theorem one_any (s : Sy) (m : Sm) (e p : Int) (w : World) (hn : Nr w) (ht : Tb w) (hm : Smb w s m) (hl : (chk s).length ≤ 100000) :
    Calls Tryd.prog 18 #[.agg (syA s m), .int .i64 e, .int .i64 p] w fun r w' => r = .returned (.bool (decide (chk s = [(e, p)]))) ∧ Below w.heap.size w w' := by
  have HC := Lib.hid (fun W (hb : Below w.heap.size w W) => check_any s m W (hn.below hb) (ht.below hb) (hm.then_ hb))
  clear hn hm ht
  obtain ⟨r, hr⟩ : ∃ r, decide (chk s = [(e, p)]) = r := ⟨_, rfl⟩
  rw [hr]
  have HR := Lib.hid hr
  clear hr
  go_enter Tryd.func18, Tryd.ntmps18
  go_upto_region 1 with (fail)
  refine name_wp ?_
  intro X hX
  have gX : Blk X w.heap.size 34 (syA s m) := by rw [hX]; exact Blk.new _ _ _
  have hbX : Below w.heap.size w X := by rw [hX]; exact wa1 _ _
  have lX := gX.lt
  have GX := Lib.hid gX
  have HBX := Lib.hid hbX
  clear gX hbX hX
  go_wp2_with (first | (refine wpList_row_w (by rfl) 34 _ rfl w.heap.size rfl 34 _ GX.out ⟨_, Tryd.underlying34⟩ (by kernel_rfl) ?_; simp only [Act.put, List.setIfInBounds_toArray, List.set_cons_succ, List.set_cons_zero]) | (go_at_call 11; (with_reducible refine (HC.out _ HBX.out).mono ?_); rintro e1 w1 ⟨v1, rfl, hb1, hO1⟩; obtain ⟨A1, c1, rfl, _, hS1⟩ := hO1.seg encF_len; have HS1 := Lib.hid hS1; have HB1 := Lib.hid hb1; clear hO1 hS1 hb1) | (go_at_call 13; refine (faults_any A1 _ c1 _ (chk s) [(e, p)] _ (by omega) (by simp) ((HS1.out.below (wa1 _ _)).more (wa1 _ _).size) (seg_of encF_len (Blk.new _ _ _) rfl)).mono ?_; rintro e2 w2 ⟨rfl, hb2⟩; rw [HR.out]))
  go_ret
  exact ⟨rfl, below_then (below_alloc (below_then HBX.out HB1.out) _) hb2⟩
end Go.Proofs.YtcfjehohemdanaaDoor
