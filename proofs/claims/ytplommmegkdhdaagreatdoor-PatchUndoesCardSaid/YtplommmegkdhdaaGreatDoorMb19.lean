/- Contracts of functions and plain laws, joined: Pz0, Kbk, Kbl, Kbm, Krb. -/
import Derived.Test.YtplommmegkdhdaaGreatDoorMb15
import Derived.Lib.OthersKept
import Derived.Lib.AppendIntMem
import Derived.ArgAppend
import Derived.Test.YtplommmegkdhdaaGreatDoorMb14
import Derived.Test.YtplommmegkdhdaaGreatDoorMb12
/- The writer of patch.Text: a blank and a decimal appended to bytes of the call's own. -/
namespace Go.Proofs.YtplommmegkdhdaaGreatDoor
open Go.RowKit

def eB (c : UInt8) : List Value := [.int .u8 c.toNat]
theorem eB_len (c : UInt8) : (eB c).length = 1 := rfl
theorem flat_eB (l : List UInt8) : l.flatMap eB = Lib.byteCells l := by
  induction l with
  | nil => rfl
  | cons c l ih => rw [List.flatMap_cons, ih]; rfl
theorem one_byte (c : UInt8) : ∀ u ∈ eB c, u.oneCell' = true := by
  intro u hu
  simp only [eB, List.mem_cons, List.not_mem_nil, or_false] at hu
  rw [hu]; rfl
theorem zero_u8 : (Tryz.prog.info? 5).map (fun i => (i.zero, i.size, i.bytes)) = some (some (.int .u8 0), 1, 1) := by kernel_rfl
theorem dec_len (u : Nat) : (Lib.decDigits u).length ≤ 20 ∨ 18446744073709551616 ≤ u := by
  by_cases h : u < 18446744073709551616
  · left
    have key : ∀ (k u : Nat), u < 10 ^ (k + 1) → (Lib.decDigits u).length ≤ k + 1 := by
      intro k
      induction k with
      | zero =>
        intro u hu
        rw [Lib.decDigits]
        split
        · simp
        · omega
      | succ k ih =>
        intro u hu
        rw [Lib.decDigits]
        split
        · simp
        · rw [List.length_append]
          have : u / 10 < 10 ^ (k + 1) := by rw [Nat.div_lt_iff_lt_mul (by omega), ← Nat.pow_succ]; exact hu
          have := ih (u / 10) this
          simp only [List.length_singleton]
          omega
    exact key 19 u (Nat.lt_of_lt_of_le h (by decide))
  · right; omega
theorem itoa_len {n : Int} (h : I64 n) : (Lib.itoa n).length ≤ 21 := by
  unfold Lib.itoa
  split
  · have := dec_len n.natAbs
    simp only [List.length_cons]
    omega
  · have := dec_len n.toNat
    omega
theorem wnum_len {n : Int} (h : I64 n) : (wnum n).length ≤ 22 := by
  have := itoa_len h
  unfold wnum
  simp only [List.length_cons]
  omega
theorem Blk.others {w w' : World} {g : Nat} {t e : TypeId} {cs : Array Value} {b : Option Nat} (h : Blk w g t cs) (k : Lib.OthersKept e b w w') (hb : some g ≠ b) (ht : t ≠ e) : Blk w' g t cs :=
  k g _ h hb fun c fz hc => by injection hc with _ h2 _; exact ht h2
theorem OthersKept.some_ {e : TypeId} {b : Nat} {w w' : World} (h : Lib.OthersKept e none w w') : Lib.OthersKept e (some b) w w' := fun k o hk _ ho => h k o hk (by simp) ho
theorem own_kind {α : Type} {w : World} {B : Nat} {T : TypeId} {size : Nat} {enc : α → List Value} {v : Value} {xs : List α} (h : Own w B T size enc v xs) : ∀ g, v.ownBlock = some g → ∃ c fz, w.heap[g]? = some (.cells c T fz) := by
  intro g hg
  rcases h.2 with ⟨h5, _⟩ | ⟨g', cap, cur, hv, _, hh, _⟩
  · rw [h5] at hg; cases hg
  · rw [hv] at hg
    have e1 : g' = g := Option.some.inj hg
    rw [e1] at hh
    exact ⟨_, _, hh⟩
theorem own_form {w : World} {B n : Nat} {e : TypeId} {v : Value} {xs : List Value} (h : w.ownsRow B e 1 v n xs) (hn : 0 < n) : ∃ g m c, v = .slice (some ⟨g, 0, none⟩) m c := by
  rcases h.2 with ⟨_, h0⟩ | ⟨g, cap, _, hv, _⟩
  · omega
  · exact ⟨g, _, cap, hv⟩
/-- what a write leaves -/
def WrR (w0 W : World) (bo : Nat) (xs : List UInt8) (n : Int) (e : Ending) (w' : World) : Prop :=
  e = .returned (.tuple #[]) ∧ (∃ sv, Own w' w0.heap.size 5 1 eB sv (xs ++ wnum n) ∧ Blk w' bo 89 #[sv]) ∧ Below w0.heap.size w0 w' ∧ Lib.OthersKept 5 (some bo) W w'
/-- what is left when the number is appended and the box stored -/
theorem wr_end {w0 W w4 w' : World} {bo : Nat} {sv v' : Value} {xs : List UInt8} {n : Int} (h0 : w0.heap.size ≤ bo) (hb4 : Blk w4 bo 89 #[sv]) (hB4 : Below w0.heap.size w0 w4) (hk4 : Lib.OthersKept 5 (some bo) W w4)
    (ho : w'.ownsRow w0.heap.size 5 1 v' ((xs ++ [32]).length + (Lib.itoa n).length) ((xs ++ [32]).flatMap eB ++ Lib.byteCells (Lib.itoa n))) (hb : Below w0.heap.size w4 w') (hk : Lib.OthersKept 5 none w4 w') :
    WrR w0 W bo xs n (.returned (.tuple #[])) (w'.setCell ⟨bo, 0, none⟩ v') := by
  have hb' : Blk w' bo 89 #[sv] := hb4.others hk (by simp) (by decide)
  have hO : Own w' w0.heap.size 5 1 eB v' (xs ++ wnum n) := by
    unfold Own
    have e1 : xs ++ wnum n = (xs ++ [32]) ++ Lib.itoa n := by unfold wnum; simp
    have h1 : ((xs ++ [32]) ++ Lib.itoa n).length = (xs ++ [32]).length + (Lib.itoa n).length := List.length_append
    have h2 : ((xs ++ [32]) ++ Lib.itoa n).flatMap eB = (xs ++ [32]).flatMap eB ++ Lib.byteCells (Lib.itoa n) := by rw [← flat_eB (Lib.itoa n)]; exact List.flatMap_append
    rw [e1, h1, h2]
    exact ho
  refine ⟨rfl, ⟨v', hO.setOther (p := ⟨bo, 0, none⟩) hb' (by decide) _, hb'.set_ 0 v'⟩, (hB4.trans hb).setCell (p := ⟨bo, 0, none⟩) h0 _, ?_⟩
  exact (hk4.trans (OthersKept.some_ hk)).setCell ⟨bo, 0, none⟩ rfl v'
set_option maxRecDepth 100000 in
set_option maxHeartbeats 3200000 in
theorem write_own (w0 W : World) (hT : Lib.TabBelow Tryz.prog w0.heap.size w0 "internal/strconv.uint64pow10" .u64 Lib.pow10Tab) (n : Int) (hn : I64 n) (bo : Nat) (h0 : w0.heap.size ≤ bo) (sv : Value) (xs : List UInt8) (hb : Blk W bo 89 #[sv]) (hO : Own W w0.heap.size 5 1 eB sv xs) (hl : xs.length ≤ 900000) (hB : Below w0.heap.size w0 W) :
    Calls Tryz.prog 35 #[.int .i64 n, .pointer (some ⟨bo, 0, none⟩)] W fun e w' => WrR w0 W bo xs n e w' := by
  obtain ⟨ri, hi, hz0, hz1, hz2⟩ := info_parts zero_u8
  have c0 : W.cell? ⟨bo, 0, none⟩ = some sv := hb.cell 0
  have G := Lib.hid hb
  have HB := Lib.hid hB
  have HT := Lib.hid hT
  have H0 := Lib.hid h0
  have HN := Lib.hid hn
  have hBs := hB.size
  have HO := Lib.hid hO
  clear hb hB hT h0 hO hn
  go_enter Tryz.func35, Tryz.ntmps35
  have hg1 : Blk (W.alloc (.cells #[.int .u8 32] 5)) W.heap.size 5 #[.int .u8 32] := Blk.new _ _ _
  go_wp2_with (at_builtin; go_loud (refine wpList_app _ rfl (.tmp 3) (.tmp 4) _ rfl w0.heap.size 5 ri _ 1 1 Tryz.underlying89 hi hz0 hz1 hz2 rfl (by omega) (by omega) eB eB_len one_byte _ xs rfl (HO.out.alloc _) (by omega) W.heap.size 1 (32 : UInt8) rfl hg1 (by simp; omega) ?_); intro v4 w4 hO4 hb4 hg4)
  have hk4 : Lib.OthersKept 5 (some bo) W w4 := ((Lib.OthersKept.refl _ _ _).alloc _).grown hg4 (own_kind (HO.out.alloc _))
  have hb4' : Blk w4 bo 89 #[sv] := (G.out.alloc _).grownBy (HO.out.alloc _) (by decide) hg4
  have hB4 : Below w0.heap.size w0 w4 := (HB.out.alloc hBs _).trans hb4
  have lb := hb4'.lt
  have HO4 := Lib.hid hO4
  have hll : (xs ++ [32]).length + 21 ≤ 140737488355328 := by rw [List.length_append, List.length_singleton]; omega
  have ho4' : w4.ownsRow w0.heap.size 5 1 v4 (xs ++ [32]).length ((xs ++ [32]).flatMap eB) := HO4.out
  have HAP := Lib.hid (Tryz.strconv_AppendInt_10 w0.heap.size (xs ++ [32]).length n HN.out.1 HN.out.2 v4 ((xs ++ [32]).flatMap eB) w4 ho4' hB4.size hll (HT.out.on hB4))
  have HB4 := Lib.hid hb4'
  have HBB := Lib.hid hB4
  have HK4 := Lib.hid hk4
  clear hk4 hb4' hB4 G HB hO4 ho4'
  go_wp2_with (go_at_call 36; (with_reducible refine HAP.out.mono ?_); rintro e w5 ⟨v5, rfl, ho5, hb5, hk5⟩; obtain ⟨g5, m5, q5, rfl⟩ := own_form ho5 (by rw [List.length_append, List.length_singleton]; omega); have c5 : w5.cell? ⟨bo, 0, none⟩ = some sv := (Blk.others HB4.out hk5 (by simp) (by decide)).cell 0; have z5 : w5.frozen? ⟨bo, 0, none⟩ = false := (Blk.others HB4.out hk5 (by simp) (by decide)).frozen 0; have l5 := (Blk.others HB4.out hk5 (by simp) (by decide)).lt; have HO5 := Lib.hid ho5; clear ho5)
  refine bodyPost_ret (results_none rfl _ _ _) rfl ?_
  exact wr_end H0.out HB4.out HBB.out HK4.out HO5.out hb5 hk5
set_option maxRecDepth 100000 in
set_option maxHeartbeats 3200000 in
theorem write_first (w0 W : World) (hT : Lib.TabBelow Tryz.prog w0.heap.size w0 "internal/strconv.uint64pow10" .u64 Lib.pow10Tab) (n : Int) (hn : I64 n) (bo : Nat) (h0 : w0.heap.size ≤ bo) (sv : Value) (xs : List UInt8) (hb : Blk W bo 89 #[sv]) (ro : Nat) (hsv : sv = .slice (some ⟨ro, 0, none⟩) xs.length xs.length) (hro : ∀ j u, (xs.flatMap eB)[j]? = some u → W.cell? ⟨ro, j, none⟩ = some u) (hl : xs.length ≤ 900000) (hB : Below w0.heap.size w0 W) :
    Calls Tryz.prog 35 #[.int .i64 n, .pointer (some ⟨bo, 0, none⟩)] W fun e w' => WrR w0 W bo xs n e w' := by
  obtain ⟨ri, hi, hz0, hz1, hz2⟩ := info_parts zero_u8
  subst hsv
  have c0 : W.cell? ⟨bo, 0, none⟩ = some (.slice (some ⟨ro, 0, none⟩) xs.length xs.length) := hb.cell 0
  have G := Lib.hid hb
  have HB := Lib.hid hB
  have HT := Lib.hid hT
  have H0 := Lib.hid h0
  have HN := Lib.hid hn
  have hBs := hB.size
  have HRO := Lib.hid hro
  have hro2 : ∀ j u, (xs.flatMap eB)[j]? = some u → (W.alloc (.cells #[.int .u8 32] 5)).cell? ⟨ro, j, none⟩ = some u := fun j u h => by
    have h1 := hro j u h
    rw [(wa1 W _).cell (p := ⟨ro, j, none⟩) (block_lt_of_cell h1)]
    exact h1
  clear hb hB hT h0 hn hro
  go_enter Tryz.func35, Tryz.ntmps35
  have hg1 : Blk (W.alloc (.cells #[.int .u8 32] 5)) W.heap.size 5 #[.int .u8 32] := Blk.new _ _ _
  go_wp2_with (at_builtin; go_loud (refine wpList_append_grows _ rfl (.tmp 3) (.tmp 4) _ rfl 5 ri _ 1 1 Tryz.underlying89 hi hz0 hz1 hz2 rfl (by omega) (some ⟨ro, 0, none⟩) xs.length xs.length (xs.flatMap eB) rfl (fun h => by cases h) (by rw [flat_eB, Lib.byteCells_length, Nat.mul_one]) (fun b h j u hj => by injection h with h; rw [← h]; rw [Addr.add_lit, Nat.zero_add]; exact hro2 j u hj) ⟨W.heap.size, 0, none⟩ 1 1 [.int .u8 32] rfl rfl (fun j u hj => by rw [Addr.add_lit, Nat.zero_add, hg1.cell]; simpa using hj) (one_byte 32) (by omega) (by unfold maxLen; omega) (by omega) ?_); intro v4 w4 ho4 hg4)
  have hO4 : Own w4 w0.heap.size 5 1 eB v4 (xs ++ [32]) := by
    refine Own.more (B := (W.alloc (.cells #[.int .u8 32] 5)).heap.size) ?_ (by simp; omega)
    unfold Own
    rw [List.length_append, List.flatMap_append]
    exact ho4
  have hb4 : Below W.heap.size W w4 := (Below.refl W.heap.size _).alloc (Nat.le_refl _) _ |>.grown hg4 (by simp) (fun k hk => by cases hk)
  have hk4 : Lib.OthersKept 5 (some bo) W w4 := ((Lib.OthersKept.refl _ _ _).alloc _).grown hg4 (fun g h => by cases h)
  have hb4' : Blk w4 bo 89 #[.slice (some ⟨ro, 0, none⟩) xs.length xs.length] := G.out.then_ hb4
  have hB4 : Below w0.heap.size w0 w4 := HB.out.trans (hb4.mono hBs)
  have lb := hb4'.lt
  have HO4 := Lib.hid hO4
  have hll : (xs ++ [32]).length + 21 ≤ 140737488355328 := by rw [List.length_append, List.length_singleton]; omega
  have ho4' : w4.ownsRow w0.heap.size 5 1 v4 (xs ++ [32]).length ((xs ++ [32]).flatMap eB) := HO4.out
  have HAP := Lib.hid (Tryz.strconv_AppendInt_10 w0.heap.size (xs ++ [32]).length n HN.out.1 HN.out.2 v4 ((xs ++ [32]).flatMap eB) w4 ho4' hB4.size hll (HT.out.on hB4))
  have HB4 := Lib.hid hb4'
  have HBB := Lib.hid hB4
  have HK4 := Lib.hid hk4
  clear hk4 hb4' hB4 G HB hO4 ho4'
  go_wp2_with (go_at_call 36; (with_reducible refine HAP.out.mono ?_); rintro e w5 ⟨v5, rfl, ho5, hb5, hk5⟩; obtain ⟨g5, m5, q5, rfl⟩ := own_form ho5 (by rw [List.length_append, List.length_singleton]; omega); have c5 : w5.cell? ⟨bo, 0, none⟩ = some (.slice (some ⟨ro, 0, none⟩) xs.length xs.length) := (Blk.others HB4.out hk5 (by simp) (by decide)).cell 0; have z5 : w5.frozen? ⟨bo, 0, none⟩ = false := (Blk.others HB4.out hk5 (by simp) (by decide)).frozen 0; have l5 := (Blk.others HB4.out hk5 (by simp) (by decide)).lt; have HO5 := Lib.hid ho5; clear ho5)
  refine bodyPost_ret (results_none rfl _ _ _) rfl ?_
  exact wr_end H0.out HB4.out HBB.out HK4.out HO5.out hb5 hk5
set_option maxRecDepth 100000 in
theorem flag_own (w0 W : World) (hT : Lib.TabBelow Tryz.prog w0.heap.size w0 "internal/strconv.uint64pow10" .u64 Lib.pow10Tab) (b : Bool) (bo bw : Nat) (h0 : w0.heap.size ≤ bo) (sv : Value) (xs : List UInt8) (hb : Blk W bo 89 #[sv]) (hw : Blk W bw 91 #[.func (.func 35) #[] #[.pointer (some ⟨bo, 0, none⟩)]]) (hO : Own W w0.heap.size 5 1 eB sv xs) (hl : xs.length ≤ 900000) (hB : Below w0.heap.size w0 W) :
    Calls Tryz.prog 37 #[.bool b, .pointer (some ⟨bw, 0, none⟩)] W fun e w' => WrR w0 W bo xs (bitI b) e w' := by
  have H1 := Lib.hid (write_own w0 W hT (bitI b) (bit_I64 b) bo h0 sv xs hb hO hl hB)
  have c0 : W.cell? ⟨bw, 0, none⟩ = some (.func (.func 35) #[] #[.pointer (some ⟨bo, 0, none⟩)]) := hw.cell 0
  clear hT h0 hb hw hO hl hB
  cases b with
  | true =>
    have H1 : Hid (Calls Tryz.prog 35 #[.int .i64 1, .pointer (some ⟨bo, 0, none⟩)] W fun e w' => WrR w0 W bo xs 1 e w') := H1
    go_enter Tryz.func37, Tryz.ntmps37
    go_wp2_with (go_at_call 35; (with_reducible refine H1.out.mono ?_); rintro e w5 ⟨rfl, h5⟩)
    refine bodyPost_ret (results_none rfl _ _ _) rfl ?_
    exact ⟨rfl, h5⟩
  | false =>
    have H1 : Hid (Calls Tryz.prog 35 #[.int .i64 0, .pointer (some ⟨bo, 0, none⟩)] W fun e w' => WrR w0 W bo xs 0 e w') := H1
    go_enter Tryz.func37, Tryz.ntmps37
    go_wp2_with (go_at_call 35; (with_reducible refine H1.out.mono ?_); rintro e w5 ⟨rfl, h5⟩)
    refine bodyPost_ret (results_none rfl _ _ _) rfl ?_
    exact ⟨rfl, h5⟩
end Go.Proofs.YtplommmegkdhdaaGreatDoor
/- Lists of patches in memory; the walk of merge.applied. -/
namespace Go.Proofs.YtplommmegkdhdaaGreatDoor
open Go.RowKit

/-- a patch and where its lists lie -/
structure Pk where
  p : Pat
  m : Pm
abbrev eP (x : Pk) : List Value := [.int .i64 x.p.kind, .slice x.m.p x.p.cls.length x.m.pc, .int .i64 x.p.new.kind, .int .i64 x.p.new.role, .int .i64 x.p.new.act, .int .i64 x.p.new.need, .slice x.m.A x.p.new.start.length x.m.cap, .int .i64 x.p.new.aft, .int .i64 x.p.new.grace, .bool x.p.new.bus, .bool x.p.new.fin, .int .i64 x.p.new.pause, .int .i64 x.p.new.resume, .int .i64 x.p.new.v.1, .int .i64 x.p.new.v.2, .int .i64 x.p.new.unit, .int .i64 x.p.new.to_, .bool x.p.new.waived, .int .i64 x.p.days]
theorem eP_len (x : Pk) : (eP x).length = 19 := rfl
theorem eP_arr (x : Pk) : (eP x).toArray = pL x.p x.m := rfl
theorem one_pat (y : Pk) : ∀ u ∈ eP y, u.oneCell' = true := by
  intro u hu
  simp only [List.mem_cons, List.not_mem_nil, or_false] at hu
  rcases hu with rfl | rfl | rfl | rfl | rfl | rfl | rfl | rfl | rfl | rfl | rfl | rfl | rfl | rfl | rfl | rfl | rfl | rfl | rfl <;> rfl
theorem el19 : ElT Tryz.prog 34 19 := ⟨⟨_, Tryz.underlying34⟩, by kernel_rfl, ⟨.agg #[.int .i64 0, .slice none 0 0, .int .i64 0, .int .i64 0, .int .i64 0, .int .i64 0, .slice none 0 0, .int .i64 0, .int .i64 0, .bool false, .bool false, .int .i64 0, .int .i64 0, .int .i64 0, .int .i64 0, .int .i64 0, .int .i64 0, .bool false, .int .i64 0], rfl, fun w => by kernel_rfl⟩⟩
/-- a list of patches lies in memory -/
structure Pats (w : World) (A : Option Addr) (L : List Pk) : Prop where
  s : Seg w w.heap.size 19 eP A L
  t : ∀ x ∈ L, PatM w x.p x.m
  n : L.length ≤ 1000000
theorem Pats.then_ {w w' : World} {A : Option Addr} {L : List Pk} (h : Pats w A L) (hb : Below w.heap.size w w') : Pats w' A L := ⟨(h.s.below hb).more hb.size, fun x hx => (h.t x hx).then_ hb, h.n⟩
abbrev pats (L : List Pk) : List Pat := L.map (·.p)
/-- what applied gives besides its error -/
def Con.alC (c : Con) (l : List Pat) : Con := if (c.al l).1 = 0 then (c.al l).2 else Con.zero
end Go.Proofs.YtplommmegkdhdaaGreatDoor
/- The walks of slices.Equal at conditions, merge.sameClause, slices.EqualFunc at clauses. -/
namespace Go.Proofs.YtplommmegkdhdaaGreatDoor
open Go.RowKit

theorem wpList_done {P : Program} {ops : Array Oper} {Q : Exit → Act → World → Prop} {a : Act} {w : World} (h : Q .normal a w) : wpList P ops Q [] a w := h
theorem eqvS (a b c d : Int) (w : World) : (Op.equalIn 10000 76 (.agg #[.int .i64 a, .int .i64 b]) (.agg #[.int .i64 c, .int .i64 d])).run Tryz.prog w = .ok (decide (a = c ∧ b = d)) w := by
  have e : (Tryz.prog.fieldsOf 76).toList.map (fun f => (f.name, f.type, f.offset)) = [("Clause", 3, 0), ("Is", 3, 1)] := by kernel_rfl
  obtain ⟨f1, f2, hf, h1, h2, h3, h4⟩ : ∃ f1 f2, (Tryz.prog.fieldsOf 76).toList = [f1, f2] ∧ f1.type = 3 ∧ f2.type = 3 ∧ f1.offset = 0 ∧ f2.offset = 1 := by
    match hl : (Tryz.prog.fieldsOf 76).toList with
    | [f1, f2] => rw [hl] at e; simp at e; exact ⟨f1, f2, rfl, e.1.2.1, e.2.2.1, e.1.2.2, e.2.2.2⟩
    | [] => rw [hl] at e; simp at e
    | [f1] => rw [hl] at e; simp at e
    | f1 :: f2 :: f3 :: r => rw [hl] at e; simp at e
  have hb : ∀ f ∈ [f1, f2], (f.name == "_") = false := by
    have e2 : (Tryz.prog.fieldsOf 76).toList.all (fun f => !(f.name == "_")) = true := by kernel_rfl
    rw [hf] at e2
    intro f hf2
    have := List.all_eq_true.1 e2 f hf2
    simpa using this
  have p1 : (part 3 #[.int .i64 a, .int .i64 b] 0).run Tryz.prog w = .ok (.int .i64 a) w := by kernel_rfl
  have p2 : (part 3 #[.int .i64 a, .int .i64 b] 1).run Tryz.prog w = .ok (.int .i64 b) w := by kernel_rfl
  have p3 : (part 3 #[.int .i64 c, .int .i64 d] 0).run Tryz.prog w = .ok (.int .i64 c) w := by kernel_rfl
  have p4 : (part 3 #[.int .i64 c, .int .i64 d] 1).run Tryz.prog w = .ok (.int .i64 d) w := by kernel_rfl
  have u := Tryz.underlying3
  show (Op.equalIn (9998 + 1 + 1) _ _ _).run _ _ = _
  rw [run_equalIn_agg w (9998 + 1) 76 _ _ (by kernel_rfl) (by kernel_rfl), hf]
  have n1 : f1.name ≠ "_" := by simpa using hb f1 (by simp)
  have n2 : f2.name ≠ "_" := by simpa using hb f2 (by simp)
  simp only [Op.eqFields, Sem.run_bind, h1, h2, h3, h4, p1, p2, p3, p4, Result.andThen_ok, run_equalIn_int w 9998 3 .i64 .i64 _ _ u, ne_eq, Sem.run_ite, Sem.run_pure, n1, n2]
  by_cases q1 : a = c <;> by_cases q2 : b = d <;> simp [q1, q2]
end Go.Proofs.YtplommmegkdhdaaGreatDoor
/- The walk of merge.sameClause. -/
namespace Go.Proofs.YtplommmegkdhdaaGreatDoor
open Go.RowKit

theorem cla_eq (x y : Km) : x.k = y.k ↔ x.k.kind = y.k.kind ∧ x.k.role = y.k.role ∧ x.k.act = y.k.act ∧ x.k.need = y.k.need ∧ x.k.start = y.k.start ∧ x.k.aft = y.k.aft ∧ x.k.grace = y.k.grace ∧ x.k.bus = y.k.bus ∧ x.k.fin = y.k.fin ∧ x.k.pause = y.k.pause ∧ x.k.resume = y.k.resume ∧ x.k.v = y.k.v ∧ x.k.unit = y.k.unit ∧ x.k.to_ = y.k.to_ ∧ x.k.waived = y.k.waived := by
  obtain ⟨⟨a1, a2, a3, a4, a5, a6, a7, a8, a9, a10, a11, a12, a13, a14, a15⟩, A, c⟩ := x
  obtain ⟨⟨b1, b2, b3, b4, b5, b6, b7, b8, b9, b10, b11, b12, b13, b14, b15⟩, A', c'⟩ := y
  simp
end Go.Proofs.YtplommmegkdhdaaGreatDoor
/- The walk of estoppelref24.SameClause. -/
namespace Go.Proofs.YtplommmegkdhdaaGreatDoor
open Go.RowKit

set_option maxRecDepth 100000 in
set_option maxHeartbeats 6400000 in
theorem rsame_any (x y : Km) (w : World) (hx : KOk w x) (hy : KOk w y) : Calls Tryz.prog 14 #[.agg (kA x), .agg (kA y)] w fun e w' => e = .returned (.bool (decide (x.k = y.k))) ∧ Below w.heap.size w w' := by
  obtain ⟨R, hR⟩ : ∃ R, decide (x.k = y.k) = R := ⟨_, rfl⟩
  rw [hR]
  have H1 := Lib.hid hx.s
  have H2 := Lib.hid hy.s
  have n1 := hx.n
  have heq0 := fun W => eqv2 x.k.v.1 x.k.v.2 y.k.v.1 y.k.v.2 W
  obtain ⟨hv, ev⟩ : ∃ b, decide (x.k.v.1 = y.k.v.1 ∧ x.k.v.2 = y.k.v.2) = b := ⟨_, rfl⟩
  simp only [ev] at heq0
  have heq := Lib.hid heq0
  obtain ⟨e0, E0⟩ : ∃ b, (x.k.kind != y.k.kind) = b := ⟨_, rfl⟩
  obtain ⟨e1, E1⟩ : ∃ b, (x.k.role != y.k.role) = b := ⟨_, rfl⟩
  obtain ⟨e2, E2⟩ : ∃ b, (x.k.act != y.k.act) = b := ⟨_, rfl⟩
  obtain ⟨e3, E3⟩ : ∃ b, (x.k.need != y.k.need) = b := ⟨_, rfl⟩
  obtain ⟨e4, E4⟩ : ∃ b, (x.k.aft != y.k.aft) = b := ⟨_, rfl⟩
  obtain ⟨e5, E5⟩ : ∃ b, (x.k.grace != y.k.grace) = b := ⟨_, rfl⟩
  obtain ⟨e6, E6⟩ : ∃ b, (x.k.bus == y.k.bus) = b := ⟨_, rfl⟩
  obtain ⟨e7, E7⟩ : ∃ b, (x.k.fin == y.k.fin) = b := ⟨_, rfl⟩
  obtain ⟨e8, E8⟩ : ∃ b, (x.k.pause != y.k.pause) = b := ⟨_, rfl⟩
  obtain ⟨e9, E9⟩ : ∃ b, (x.k.resume != y.k.resume) = b := ⟨_, rfl⟩
  obtain ⟨e10, E10⟩ : ∃ b, (!hv) = b := ⟨_, rfl⟩
  obtain ⟨e11, E11⟩ : ∃ b, (x.k.unit != y.k.unit) = b := ⟨_, rfl⟩
  obtain ⟨e12, E12⟩ : ∃ b, (x.k.to_ != y.k.to_) = b := ⟨_, rfl⟩
  obtain ⟨e13, E13⟩ : ∃ b, (x.k.waived == y.k.waived) = b := ⟨_, rfl⟩
  obtain ⟨e14, E14⟩ : ∃ b, ((x.k.start.length : Int) != (y.k.start.length : Int)) = b := ⟨_, rfl⟩
  have HRR : Hid (R = (!(e0 || e1 || e2 || e3 || e4 || e5 || (!e6) || (!e7)) && !(e8 || e9 || e10 || e11 || e12 || (!e13) || e14) && decide (x.k.start = y.k.start))) := by
    unfold Hid
    rw [← hR, Bool.eq_iff_iff]
    simp only [decide_eq_true_eq, Bool.and_eq_true, Bool.not_eq_true', Bool.or_eq_false_iff]
    rw [cla_eq]
    rw [← E0, ← E1, ← E2, ← E3, ← E4, ← E5, ← E6, ← E7, ← E8, ← E9, ← E10, ← E11, ← E12, ← E13, ← E14]
    simp only [bne_eq_false_iff_eq, ← ev, Bool.not_eq_false', beq_iff_eq, decide_eq_true_eq, Prod.ext_iff]
    constructor
    · intro h
      obtain ⟨h1, h2, h3, h4, h5, h6, h7, h8, h9, h10, h11, h12, h13, h14, h15⟩ := h
      simp [h1, h2, h3, h4, h5, h6, h7, h8, h9, h10, h11, h12, h13, h14, h15]
    · rintro ⟨⟨⟨⟨⟨⟨⟨⟨⟨h1, h2⟩, h3⟩, h4⟩, h6⟩, h7⟩, h8⟩, h9⟩, ⟨⟨⟨⟨⟨⟨h10, h11⟩, h12⟩, h13⟩, h14⟩, h15⟩, _⟩⟩, h5⟩
      exact ⟨h1, h2, h3, h4, h5, h6, h7, h8, h9, h10, h11, h12, h13, h14, h15⟩
  clear hR hx hy heq0 ev
  go_enter Tryz.func14, Tryz.ntmps14
  go_upto_region 1 with (fail)
  refine name_wp ?_
  intro X hX
  have gba : Blk X w.heap.size 32 (kA x) := by rw [hX]; exact (blk_at (by simp)).alloc _
  have gbb : Blk X (w.heap.size + 1) 32 (kA y) := by rw [hX]; exact blk_at (by simp)
  have HB : Below w.heap.size w X := by rw [hX]; (repeat (first | with_reducible assumption | with_reducible exact Below.refl _ _ | with_reducible refine below_drewN ?_ _ | with_reducible refine Below.drew ?_ | with_reducible refine below_alloc ?_ _ | with_reducible refine Below.setCell ?_ (by first | omega | (simp; done) | (simp; omega)) _ | with_reducible refine below_then ?_ (by with_reducible assumption) | (refine below_then (a := World.drew _) ?_ (by with_reducible assumption))))
  clear hX
  obtain ⟨bb, ebb⟩ : ∃ b, w.heap.size + 1 = b := ⟨_, rfl⟩
  obtain ⟨ba, eba⟩ : ∃ b, w.heap.size = b := ⟨_, rfl⟩
  have lba : w.heap.size ≤ ba := by omega
  have lbb : w.heap.size ≤ bb := by omega
  have nbabb : ba ≠ bb := by omega
  rw [ebb] at gbb ⊢
  rw [eba] at gba ⊢
  clear eba ebb
  have HBX := Lib.hid HB
  clear HB
  go_upto_region 1 with (fail)
  go_cut [59] from 6 to 58 (fun v W => v = .bool (e0 || e1 || e2 || e3 || e4 || e5 || (!e6) || (!e7)) ∧ X = W)
  case first =>
    have p0 : X.cell? ⟨ba, 0, none⟩ = some (.int .i64 x.k.kind) := gba.cell 0
    have q0 : X.cell? ⟨bb, 0, none⟩ = some (.int .i64 y.k.kind) := gbb.cell 0
    have p1 : X.cell? ⟨ba, 1, none⟩ = some (.int .i64 x.k.role) := gba.cell 1
    have q1 : X.cell? ⟨bb, 1, none⟩ = some (.int .i64 y.k.role) := gbb.cell 1
    have p2 : X.cell? ⟨ba, 2, none⟩ = some (.int .i64 x.k.act) := gba.cell 2
    have q2 : X.cell? ⟨bb, 2, none⟩ = some (.int .i64 y.k.act) := gbb.cell 2
    have p3 : X.cell? ⟨ba, 3, none⟩ = some (.int .i64 x.k.need) := gba.cell 3
    have q3 : X.cell? ⟨bb, 3, none⟩ = some (.int .i64 y.k.need) := gbb.cell 3
    have p5 : X.cell? ⟨ba, 5, none⟩ = some (.int .i64 x.k.aft) := gba.cell 5
    have q5 : X.cell? ⟨bb, 5, none⟩ = some (.int .i64 y.k.aft) := gbb.cell 5
    have p6 : X.cell? ⟨ba, 6, none⟩ = some (.int .i64 x.k.grace) := gba.cell 6
    have q6 : X.cell? ⟨bb, 6, none⟩ = some (.int .i64 y.k.grace) := gbb.cell 6
    have p7 : X.cell? ⟨ba, 7, none⟩ = some (.bool x.k.bus) := gba.cell 7
    have q7 : X.cell? ⟨bb, 7, none⟩ = some (.bool y.k.bus) := gbb.cell 7
    have p8 : X.cell? ⟨ba, 8, none⟩ = some (.bool x.k.fin) := gba.cell 8
    have q8 : X.cell? ⟨bb, 8, none⟩ = some (.bool y.k.fin) := gbb.cell 8
    clear gba gbb E8 E9 E10 E11 E12 E13 E14
    go_wp2
    all_goals go_meet
    all_goals (case rel => exact ⟨by simp_all, rfl⟩)
  obtain ⟨rfl, rfl⟩ := hcut
  --S1
  cases hb1 : (e0 || e1 || e2 || e3 || e4 || e5 || (!e6) || (!e7)) with
  | true =>
    have hf : Hid (R = false) := by unfold Hid; rw [HRR.out, hb1]; rfl
    clear hb1 gba gbb E0 E1 E2 E3 E4 E5 E6 E7 E8 E9 E10 E11 E12 E13 E14 HRR
    go_wp2
    go_ret
    exact ⟨ret_bool hf.out.symm, HBX.out⟩
  | false =>
  have HR2 : Hid (R = (!(e8 || e9 || e10 || e11 || e12 || (!e13) || e14) && decide (x.k.start = y.k.start))) := by unfold Hid; rw [HRR.out, hb1]; rfl
  clear hb1 HRR E0 E1 E2 E3 E4 E5 E6 E7
  go_upto_region 3 with (fail)
  go_cut [108] from 60 to 107 (fun v W => v = .bool (e8 || e9 || e10 || e11 || e12 || (!e13) || e14) ∧ X = W)
  case first =>
    have p9 : X.cell? ⟨ba, 9, none⟩ = some (.int .i64 x.k.pause) := gba.cell 9
    have q9 : X.cell? ⟨bb, 9, none⟩ = some (.int .i64 y.k.pause) := gbb.cell 9
    have p10 : X.cell? ⟨ba, 10, none⟩ = some (.int .i64 x.k.resume) := gba.cell 10
    have q10 : X.cell? ⟨bb, 10, none⟩ = some (.int .i64 y.k.resume) := gbb.cell 10
    have p11 : X.cell? ⟨ba, 11, none⟩ = some (.int .i64 x.k.v.1) := gba.cell 11
    have q11 : X.cell? ⟨bb, 11, none⟩ = some (.int .i64 y.k.v.1) := gbb.cell 11
    have p12 : X.cell? ⟨ba, 12, none⟩ = some (.int .i64 x.k.v.2) := gba.cell 12
    have q12 : X.cell? ⟨bb, 12, none⟩ = some (.int .i64 y.k.v.2) := gbb.cell 12
    have p13 : X.cell? ⟨ba, 13, none⟩ = some (.int .i64 x.k.unit) := gba.cell 13
    have q13 : X.cell? ⟨bb, 13, none⟩ = some (.int .i64 y.k.unit) := gbb.cell 13
    have p14 : X.cell? ⟨ba, 14, none⟩ = some (.int .i64 x.k.to_) := gba.cell 14
    have q14 : X.cell? ⟨bb, 14, none⟩ = some (.int .i64 y.k.to_) := gbb.cell 14
    have p15 : X.cell? ⟨ba, 15, none⟩ = some (.bool x.k.waived) := gba.cell 15
    have q15 : X.cell? ⟨bb, 15, none⟩ = some (.bool y.k.waived) := gbb.cell 15
    have p4 : X.cell? ⟨ba, 4, none⟩ = some (.slice x.A x.k.start.length x.cap) := gba.cell 4
    have q4 : X.cell? ⟨bb, 4, none⟩ = some (.slice y.A y.k.start.length y.cap) := gbb.cell 4
    have heq1 := heq.out
    clear gba gbb
    go_wp2
    all_goals go_meet
    all_goals (case rel => exact ⟨by simp_all, rfl⟩)
  obtain ⟨rfl, rfl⟩ := hcut
  cases hb2 : (e8 || e9 || e10 || e11 || e12 || (!e13) || e14) with
  | true =>
    have hf : Hid (R = false) := by unfold Hid; rw [HR2.out, hb2]; rfl
    clear hb2 gba gbb E8 E9 E10 E11 E12 E13 E14 HR2
    go_wp2
    go_ret
    exact ⟨ret_bool hf.out.symm, HBX.out⟩
  | false =>
  have HR : Hid (decide (x.k.start = y.k.start) = R) := by unfold Hid; rw [HR2.out, hb2]; rfl
  have HL : Hid (x.k.start.length = y.k.start.length) := by
    unfold Hid
    simp only [Bool.or_eq_false_iff] at hb2
    have h14 := hb2.2
    rw [← E14] at h14
    simp at h14
    omega
  clear hb2 E8 E9 E10 E11 E12 E13 E14 HR2
  have l4 : X.cell? ⟨ba, 4, none⟩ = some (.slice x.A x.k.start.length x.cap) := gba.cell 4
  have m4 : X.cell? ⟨bb, 4, none⟩ = some (.slice y.A y.k.start.length y.cap) := gbb.cell 4
  have GA := Lib.hid gba
  have GB := Lib.hid gbb
  have H1X : Hid (Seg X X.heap.size 2 eS x.A x.k.start) := (H1.out.below HBX.out).more HBX.out.size
  have H2X : Hid (Seg X X.heap.size 2 eS y.A y.k.start) := (H2.out.below HBX.out).more HBX.out.size
  clear gba gbb H1 H2
  go_upto_region 6 with (fail)
  clear l4 m4
  have hz := Lib.hid (Below.refl X.heap.size X)
  go_loopw [5] (fun u WR => ∃ (i : Nat), i ≤ x.k.start.length ∧ u = .int .i64 i ∧ Hid (∀ j, j < i → x.k.start[j]? = y.k.start[j]?) ∧ Hid (Below X.heap.size X WR)) (fun u _ => 2000000 - (intOf u).toNat)
  case atStart => exact ⟨0, by omega, rfl, fun j hj => by omega, hz⟩
  case round =>
    obtain ⟨i, hi', rfl, hpre, hB⟩ := hrel
    have l4 : wr.cell? ⟨ba, 4, none⟩ = some (.slice x.A x.k.start.length x.cap) := (GA.out.then_ hB.out).cell 4
    have m4 : wr.cell? ⟨bb, 4, none⟩ = some (.slice y.A y.k.start.length y.cap) := (GB.out.then_ hB.out).cell 4
    by_cases hlt : i < x.k.start.length
    · have tn : decide ((i : Int) < (x.k.start.length : Int)) = true := decide_eq_true (by omega)
      have hl2 : i < y.k.start.length := by rw [← HL.out]; exact hlt
      obtain ⟨s, hx⟩ : ∃ s, x.k.start[i]? = some s := ⟨_, List.getElem?_eq_getElem hlt⟩
      obtain ⟨t, hy⟩ : ∃ t, y.k.start[i]? = some t := ⟨_, List.getElem?_eq_getElem hl2⟩
      obtain ⟨b1, o1, e1, hb1, hc1⟩ := segAt (H1X.out.below hB.out) hx
      obtain ⟨b2, o2, e2, hb2, hc2⟩ := segAt (H2X.out.below hB.out) hy
      have x0 : wr.cell? ⟨b1, o1 + i * 2, none⟩ = some (.int .i64 s.1) := by simpa using hc1 0 _ rfl
      have x1 : wr.cell? ⟨b1, o1 + i * 2 + 1, none⟩ = some (.int .i64 s.2) := hc1 1 _ rfl
      have y0 : wr.cell? ⟨b2, o2 + i * 2, none⟩ = some (.int .i64 t.1) := by simpa using hc2 0 _ rfl
      have y1 : wr.cell? ⟨b2, o2 + i * 2 + 1, none⟩ = some (.int .i64 t.2) := hc2 1 _ rfl
      have hix := fun W => idx_at (t := 28) (size := 2) (cap := x.cap) (len := x.k.start.length) e1 hlt (by kernel_rfl) (fun W => by kernel_rfl) W
      have hiy := fun W => idx_at (t := 28) (size := 2) (cap := y.cap) (len := y.k.start.length) e2 hl2 (by kernel_rfl) (fun W => by kernel_rfl) W
      have HX := Lib.hid hx
      have HY := Lib.hid hy
      have heqS := fun W => eqvS s.1 s.2 t.1 t.2 W
      have hwr := wrap_small (n := i) (by omega)
      clear hc1 hc2 hx hy e1 e2
      by_cases he : s = t
      · have hd : decide (s.1 = t.1 ∧ s.2 = t.2) = true := decide_eq_true ⟨by rw [he], by rw [he]⟩
        simp only [hd] at heqS
        have hp2 : Hid (∀ j, j < i + 1 → x.k.start[j]? = y.k.start[j]?) := by
          intro j hj
          by_cases q : j = i
          · rw [q, HX.out, HY.out, he]
          · exact hpre.out j (by omega)
        clear hd he hpre
        go_upto_region 8 with (fail)
        have rg0 := cell_regrown l4
        have rg1 := cell_regrown m4
        have rg2 := cell_regrown x0
        have rg3 := cell_regrown x1
        have rg4 := cell_regrown y0
        have rg5 := cell_regrown y1
        refine wp_region_qt [0, 1, 2, 3, 4, 5, 6, 7, 8, 9, 10] [] (by kernel_rfl) (by kernel_rfl) (by repeat (first | with_reducible refine panOk_then ?_ | with_reducible refine panOk_block ?_ | exact panOk_body)) ?_
        simp only [opsAt, List.getElem?_toArray, List.getElem?_cons_succ, List.getElem?_cons_zero, Option.toList_some, List.cons_append, List.nil_append]
        repeat (go_big_quiet_step (fail))
        refine wpQuiet_nil ?_
        intro W2 hw2
        have hbW2 := qt_world hw2
        clear hw2 rg0 rg1 rg2 rg3 rg4 rg5
        refine wpList_done ?_
        clear l4 m4 x0 x1 y0 y1
        go_wp2
        go_roundw
        case rel => exact ⟨i + 1, by omega, by simp, hp2, below_then hB.out hbW2⟩
        case measure => simp [intOf]; omega
      · have hd : decide (s.1 = t.1 ∧ s.2 = t.2) = false := decide_eq_false fun h => he (Prod.ext h.1 h.2)
        simp only [hd] at heqS
        have hf : Hid (R = false) := by
          unfold Hid
          rw [← HR.out]
          refine decide_eq_false fun h => he ?_
          have := HX.out
          rw [h, HY.out] at this
          exact (Option.some.inj this).symm
        clear hd he hpre
        go_upto_region 8 with (fail)
        have rg0 := cell_regrown l4
        have rg1 := cell_regrown m4
        have rg2 := cell_regrown x0
        have rg3 := cell_regrown x1
        have rg4 := cell_regrown y0
        have rg5 := cell_regrown y1
        refine wp_region_qt [0, 1, 2, 3, 4, 5, 6, 7, 8, 9, 10] [] (by kernel_rfl) (by kernel_rfl) (by repeat (first | with_reducible refine panOk_then ?_ | with_reducible refine panOk_block ?_ | exact panOk_body)) ?_
        simp only [opsAt, List.getElem?_toArray, List.getElem?_cons_succ, List.getElem?_cons_zero, Option.toList_some, List.cons_append, List.nil_append]
        repeat (go_big_quiet_step (fail))
        refine wpQuiet_nil ?_
        intro W2 hw2
        have hbW2 := qt_world hw2
        clear hw2 rg0 rg1 rg2 rg3 rg4 rg5
        refine wpList_done ?_
        clear l4 m4 x0 x1 y0 y1
        go_wp2
        go_ret
        exact ⟨ret_bool hf.out.symm, below_then HBX.out (below_then hB.out hbW2)⟩
    · have tn : decide ((i : Int) < (x.k.start.length : Int)) = false := decide_eq_false (by omega)
      have hf : Hid (R = true) := by
        unfold Hid
        rw [← HR.out]
        refine decide_eq_true (List.ext_getElem? fun j => ?_)
        by_cases hj : j < i
        · exact hpre.out j hj
        · rw [List.getElem?_eq_none (by omega), List.getElem?_eq_none (by have := HL.out; omega)]
      go_wp2
      go_ret
      exact ⟨ret_bool hf.out.symm, below_then HBX.out hB.out⟩
end Go.Proofs.YtplommmegkdhdaaGreatDoor
