/- The standard library's functions that ratio's texts need, at every input: Itoa, Atoi, Cut; what the listed variables must hold. The walk of ratio.Text. -/
import Derived.Test.YtbkekabhdpoddaaDoorRb6
import Derived.Lib.QuietBelow
import Derived.Laws.Concat
namespace Go.Proofs.YtbkekabhdpoddaaDoor
open Go.RowKit

/-- what the library's variables hold -/
structure Lw (w : World) : Prop where
  tab : Lib.TabIs Tryd.prog w "internal/strconv.uint64pow10" .u64 Lib.pow10Tab
  sy : ∃ ev, w.cell? ⟨1, 0, none⟩ = some ev ∧ (ev = .nilIface ∨ ∃ te pe, ev = .iface te pe)
  rg : ∃ ev, w.cell? ⟨2, 0, none⟩ = some ev ∧ (ev = .nilIface ∨ ∃ te pe, ev = .iface te pe)
  ml : ∃ m, w.cell? ⟨0, 0, none⟩ = some (.int .i64 m)
theorem tab_below {P : Program} {w w' : World} {name : String} {k : IntKind} {zs : List Int} (h : Lib.TabIs P w name k zs) (hb : Below w.heap.size w w') : Lib.TabIs P w' name k zs := by
  unfold Lib.TabIs World.var? at *
  cases hg : P.globalNamed name with
  | none => simp [hg] at h
  | some g =>
    simp only [hg, Option.bind_some] at h ⊢
    have hlt : g < w.heap.size := by
      rcases Nat.lt_or_ge g w.heap.size with hl | hl
      · exact hl
      · rw [Array.getElem?_eq_none hl] at h; simp at h
    rw [hb.block g hlt]
    exact h
theorem Lw.below {w w' : World} (h : Lw w) (hb : Below w.heap.size w w') : Lw w' := by
  obtain ⟨e1, h1, h2⟩ := h.sy
  obtain ⟨e2, h3, h4⟩ := h.rg
  obtain ⟨m, h5⟩ := h.ml
  exact ⟨tab_below h.tab hb, ⟨e1, (hb.cell (block_lt_of_cell h1)).trans h1, h2⟩, ⟨e2, (hb.cell (block_lt_of_cell h3)).trans h3, h4⟩, ⟨m, (hb.cell (block_lt_of_cell h5)).trans h5⟩⟩
theorem itoa_any (n : Int) (w : World) (hL : Lw w) (h0 : -9223372036854775808 ≤ n) (h1 : n ≤ 9223372036854775807) :
    Calls Tryd.prog 45 #[.int .i64 n] w fun e w' => e = .returned (.string ⟨(Lib.itoa n).toArray⟩) ∧ Below w.heap.size w w' :=
  (Tryd.strconv_Itoa n h0 h1 w hL.tab).mono fun _ _ ⟨a, k, os, b⟩ => ⟨a, by subst b; exact below_regrown w (w.drawn + k) os⟩
theorem atoi_ok (s : ByteArray) (v : Int) (w : World) (hs : s.size ≤ 281474976710656) (h : Lib.atoiAll s.data.toList = .ok v) :
    Calls Tryd.prog 47 #[.string s] w fun e w' => e = .returned (.tuple #[.int .i64 v, .nilIface]) ∧ Below w.heap.size w w' :=
  (Tryd.strconv_Atoi_ok s (by omega) v h w).mono fun _ _ ⟨a, b⟩ => ⟨a, by
    rcases b with rfl | ⟨t, rfl⟩
    · exact Below.refl _ _
    · exact Lib.bytesWorld_below _ _ _⟩
theorem atoi_no (s : ByteArray) (w : World) (hL : Lw w) (hs : s.size ≤ 281474976710656) (h : ∀ v, Lib.atoiAll s.data.toList ≠ .ok v) :
    Calls Tryd.prog 47 #[.string s] w fun e w' => ∃ v t p, e = .returned (.tuple #[.int .i64 v, .iface t p]) ∧ Below w.heap.size w w' := by
  by_cases hc : Lib.atoiAll s.data.toList = .range
  · obtain ⟨ev, h1, h2⟩ := hL.rg
    exact (Tryd.strconv_Atoi_range s hs hc ev w h1 h2).mono fun _ _ ⟨N, a, _, _, b⟩ => ⟨_, _, _, a, b⟩
  · obtain ⟨ev, h1, h2⟩ := hL.sy
    exact (Tryd.strconv_Atoi_bad s hs h hc ev w h1 h2).mono fun _ _ ⟨N, a, _, _, b⟩ => ⟨_, _, _, a, b⟩
theorem cut_any (s : ByteArray) (w : World) (hL : Lw w) (hs : s.size ≤ 1000000) :
    Calls Tryd.prog 46 #[.string s, .string ⟨#[47]⟩] w fun e w' => e = .returned (.tuple #[.string ⟨(Lib.cut s.data.toList [47]).1.toArray⟩, .string ⟨(Lib.cut s.data.toList [47]).2.1.toArray⟩, .bool (Lib.cut s.data.toList [47]).2.2]) ∧ Below w.heap.size w w' := by
  obtain ⟨m, hm⟩ := hL.ml
  exact (Tryd.strings_Cut s ⟨#[47]⟩ m w (by omega) hm).mono fun _ _ ⟨a, n, b⟩ => ⟨a, by subst b; exact below_drewN (Below.refl _ _) _⟩
/-- the text of a ratio -/
def txt (q : Rat) : List UInt8 := Lib.itoa q.num ++ (if q.den = 1 then [] else 47 :: Lib.itoa q.den)
def bA (l : List UInt8) : ByteArray := ⟨l.toArray⟩
theorem bA_app (a b : List UInt8) : bA a ++ bA b = bA (a ++ b) := by
  apply ByteArray.ext
  simp [bA]
theorem dec_len (u : Nat) : (Lib.decDigits u).length ≤ u + 1 := by
  induction u using Nat.strongRecOn with
  | ind u ih =>
    rw [Lib.decDigits]
    split
    · simp
    · have := ih (u / 10) (by omega)
      rw [List.length_append]
      simp only [List.length_cons, List.length_nil]
      omega
theorem itoa_len (n : Int) : (Lib.itoa n).length ≤ n.natAbs + 2 := by
  unfold Lib.itoa
  split
  · have := dec_len n.natAbs
    simp only [List.length_cons]
    omega
  · have := dec_len n.toNat
    omega
theorem bA_size (l : List UInt8) : (bA l).size = l.length := by simp [bA, ByteArray.size]
theorem text_no (n d : Int) (w : World) (hn1 : -9223372036854775808 ≤ n) (hn2 : n ≤ 9223372036854775807) (hd1 : -9223372036854775808 ≤ d) (hd2 : d ≤ 9223372036854775807) (hv : vld n d = false) :
    Calls Tryd.prog 22 #[.agg #[.int .i64 n, .int .i64 d]] w fun e w' => e = .returned (.string ⟨#[]⟩) ∧ Below w.heap.size w w' := by
  have HV := Lib.hid (fun W => valid_any n d W hn1 hn2 hd1 hd2)
  rw [hv] at HV
  clear hv hn1 hn2 hd1 hd2
  go_enter Tryd.func22, Tryd.ntmps22
  go_wp2_with (go_at_call 15; refine (HV.out _).mono ?_; rintro e w1 ⟨rfl, hb⟩; obtain ⟨hc, hf⟩ := bcell hb; have hz := hb.size; (try simp at hz); (have zl0 : w.heap.size < w1.heap.size := by omega); (have ze0 : w.heap.size ≤ w1.heap.size := by omega))
  go_ret
  exact ⟨rfl, by (repeat (first | exact Below.refl _ _ | refine below_drewN ?_ _ | refine Below.drew ?_ | refine below_alloc ?_ _ | refine Below.setCell ?_ (by first | omega | (simp; done) | (simp; omega)) _ | refine below_then ?_ (by assumption)))⟩
set_option maxRecDepth 100000 in
set_option maxHeartbeats 1600000 in
theorem text_any (q : Rat) (w : World) (hL : Lw w) (hq : inR q = true) :
    Calls Tryd.prog 22 #[.agg #[.int .i64 q.num, .int .i64 q.den]] w fun e w' => e = .returned (.string (bA (txt q))) ∧ Below w.heap.size w w' := by
  have hbd := inR_bd hq
  have hv := inR_vld hq
  have HV := Lib.hid (fun W => valid_any q.num q.den W (by omega) (by omega) (by omega) (by omega))
  rw [hv] at HV
  have HI1 : Hid (∀ W, Below w.heap.size w W → Calls Tryd.prog 45 #[.int .i64 q.num] W fun e w' => e = .returned (.string (bA (Lib.itoa q.num))) ∧ Below W.heap.size W w') := fun W hb => itoa_any q.num W (hL.below hb) (by omega) (by omega)
  have HI2 : Hid (∀ W, Below w.heap.size w W → Calls Tryd.prog 45 #[.int .i64 q.den] W fun e w' => e = .returned (.string (bA (Lib.itoa q.den))) ∧ Below W.heap.size W w') := fun W hb => itoa_any q.den W (hL.below hb) (by omega) (by omega)
  have HT : Hid (txt q = Lib.itoa q.num ++ (if (q.den : Int) = 1 then [] else 47 :: Lib.itoa q.den)) := by
    unfold Hid txt
    by_cases h : q.den = 1
    · rw [if_pos h, if_pos (by omega)]
    · rw [if_neg h, if_neg (by omega)]
  obtain ⟨n, hn⟩ : ∃ n, q.num = n := ⟨_, rfl⟩
  obtain ⟨d, hd⟩ : ∃ d : Int, (q.den : Int) = d := ⟨_, rfl⟩
  obtain ⟨X, hX⟩ : ∃ X, bA (txt q) = X := ⟨_, rfl⟩
  have hl1 := itoa_len q.num
  have hl2 := itoa_len q.den
  rw [hn] at hl1
  rw [hd] at hl2
  have hb1 : n.natAbs ≤ 1000000000000 := by omega
  have hb2 : d.natAbs ≤ 1000000 := by omega
  rw [hn, hd] at HT HV
  rw [hn] at HI1
  rw [hd] at HI2
  rw [hn, hd, hX]
  have HX := Lib.hid hX
  clear hq hv hL hn hd hbd hX
  by_cases h1 : d = 1
  · subst h1
    have HT1 : Hid (txt q = Lib.itoa n) := by unfold Hid; rw [HT.out, if_pos rfl, List.append_nil]
    go_enter Tryd.func22, Tryd.ntmps22
    go_wp2_with (first | (go_at_call 15; refine (HV.out _).mono ?_; rintro e w1 ⟨rfl, hb⟩; obtain ⟨hc, hf⟩ := bcell hb; have hz := hb.size; (try simp at hz); (have zl0 : w.heap.size < w1.heap.size := by omega); (have ze0 : w.heap.size ≤ w1.heap.size := by omega)) | (go_at_call 45; (with_reducible refine (HI1.out _ (by (repeat (first | exact Below.refl _ _ | refine below_drewN ?_ _ | refine Below.drew ?_ | refine below_alloc ?_ _ | refine Below.setCell ?_ (by first | omega | (simp; done) | (simp; omega)) _ | refine below_then ?_ (by assumption))))).mono ?_); rintro e w2 ⟨rfl, hb2⟩))
    go_ret
    exact ⟨by rw [← HX.out, HT1.out]; rfl, below_then (by (repeat (first | exact Below.refl _ _ | refine below_drewN ?_ _ | refine Below.drew ?_ | refine below_alloc ?_ _ | refine Below.setCell ?_ (by first | omega | (simp; done) | (simp; omega)) _ | refine below_then ?_ (by assumption)))) hb2⟩
  · have d1 : (d == 1) = false := by simpa using h1
    have HT1 : Hid (bA (Lib.itoa n) ++ bA [47] ++ bA (Lib.itoa d) = X) := by
      unfold Hid
      rw [← HX.out, HT.out, if_neg h1, bA_app, bA_app]
      simp
    clear h1
    go_enter Tryd.func22, Tryd.ntmps22
    go_upto_region 5 with (go_at_call 15; refine (HV.out _).mono ?_; rintro e w1 ⟨rfl, hb⟩; obtain ⟨hc, hf⟩ := bcell hb; have hz := hb.size; (try simp at hz); (have zl0 : w.heap.size < w1.heap.size := by omega); (have ze0 : w.heap.size ≤ w1.heap.size := by omega))
    refine name_wp ?_
    intro Y hY
    have hbY : Below w.heap.size w Y := by rw [hY]; (repeat (first | exact Below.refl _ _ | refine below_drewN ?_ _ | refine Below.drew ?_ | refine below_alloc ?_ _ | refine Below.setCell ?_ (by first | omega | (simp; done) | (simp; omega)) _ | refine below_then ?_ (by assumption)))
    have gY : Blk Y w.heap.size 25 #[.int .i64 n, .int .i64 d] := by rw [hY]; exact (Blk.new _ _ _).then_ hb
    have k0 : Y.cell? ⟨w.heap.size, 0, none⟩ = some (.int .i64 n) := gY.cell 0
    have k1 : Y.cell? ⟨w.heap.size, 1, none⟩ = some (.int .i64 d) := gY.cell 1
    have lY := gY.lt
    have HJ1 : Hid (∀ W, Below Y.heap.size Y W → Calls Tryd.prog 45 #[.int .i64 n] W fun e w' => e = .returned (.string (bA (Lib.itoa n))) ∧ Below W.heap.size W w') := fun W hb => HI1.out W (below_then hbY hb)
    have HJ2 : Hid (∀ W, Below Y.heap.size Y W → Calls Tryd.prog 45 #[.int .i64 d] W fun e w' => e = .returned (.string (bA (Lib.itoa d))) ∧ Below W.heap.size W w') := fun W hb => HI2.out W (below_then hbY hb)
    have HBY := Lib.hid hbY
    clear hY hbY gY hc hf hb hz zl0 ze0 HI1 HI2
    have S1 : ∀ w', (Op.stringOp .add (bA (Lib.itoa n)) ⟨#[47]⟩).run Tryd.prog w' = .ok (.string (bA (Lib.itoa n) ++ ⟨#[47]⟩)) w' := fun w' => run_string_add_sum w' _ _ (by rw [bA_size]; simp [ByteArray.size]; omega)
    have S2 : ∀ w', (Op.stringOp .add (bA (Lib.itoa n) ++ ⟨#[47]⟩) (bA (Lib.itoa d))).run Tryd.prog w' = .ok (.string (bA (Lib.itoa n) ++ ⟨#[47]⟩ ++ bA (Lib.itoa d))) w' := fun w' => run_string_add_sum w' _ _ (by rw [ByteArray.size_append, bA_size, bA_size]; simp [ByteArray.size]; omega)
    have rg0 := cell_regrown k0
    have rg1 := cell_regrown k1
    refine wp_region_qt [0, 1, 2, 3, 4, 5, 6, 7, 8] [] (by kernel_rfl) (by kernel_rfl) (by repeat (first | with_reducible refine panOk_then ?_ | with_reducible refine panOk_block ?_ | exact panOk_body)) ?_
    simp only [opsAt, List.getElem?_toArray, List.getElem?_cons_succ, List.getElem?_cons_zero, Option.toList_some, List.cons_append, List.nil_append]
    repeat (go_big_quiet_step ((first | (go_at_call 45; with_reducible exact qt_call (fun W' hb => HJ1.out W' hb) _ _) | (go_at_call 45; with_reducible exact qt_call (fun W' hb => HJ2.out W' hb) _ _))))
    refine wpQuiet_nil ?_
    intro V hw2
    have hbV := qt_world hw2
    clear hw2 rg0 rg1
    go_wp2
    go_ret
    exact ⟨by rw [← HT1.out]; rfl, below_then HBY.out hbV⟩
end Go.Proofs.YtbkekabhdpoddaaDoor
