/- A patch as an argument, opened, with the bounds of all its numbers. -/
import Derived.Test.YtplommmegkdhdaaGreatDoorMb26
import Derived.Test.YtplommmegkdhdaaGreatDoorMb2
namespace Go.Proofs.YtplommmegkdhdaaGreatDoor
open Go.ChangeShapes Go.WideShapes Go.ChangeAt Go.RowKit Go.Deep

section
variable {H : Type} {enc : TypeId × Value → H} {w : World} {spare : Nat → Bool} {held : Bool} {fuel : Nat} {cs : List Value} {x : DataW H × List MemPlace}
theorem el_i64 (h : DataW.trod enc Tryz.prog w 0 spare held fuel 3 cs = some x) : ∃ y : Int, cs = eI y ∧ I64 y := by
  obtain ⟨a, rfl, h1⟩ := trod_i64 h
  exact ⟨a, rfl, h1⟩
theorem el_co64 (h : DataW.trod enc Tryz.prog w 0 spare held fuel 76 cs = some x) : ∃ y : Int × Int, cs = eS y ∧ (I64 y.1 ∧ I64 y.2) := by
  obtain ⟨a, b, rfl, h1, h2⟩ := trod_co h
  exact ⟨(a, b), rfl, h1, h2⟩
set_option maxRecDepth 100000 in
theorem trod_cl64 (h : DataW.trod enc Tryz.prog w 0 spare held fuel 32 cs = some x) : ∃ (k : Int) (r : Int) (a : Int) (n : Int) (sA : Option Addr) (sl : List (Int × Int)) (sc : Nat) (af : Int) (g : Int) (b : Bool) (f : Bool) (p : Int) (re : Int) (v_a : Int) (v_b : Int) (u : Int) (t : Int) (w_ : Bool), cs = [.int .i64 k, .int .i64 r, .int .i64 a, .int .i64 n, .slice sA sl.length sc, .int .i64 af, .int .i64 g, .bool b, .bool f, .int .i64 p, .int .i64 re, .int .i64 v_a, .int .i64 v_b, .int .i64 u, .int .i64 t, .bool w_] ∧ I64 k ∧ I64 r ∧ I64 a ∧ I64 n ∧ LstM w (eS) 2 (fun y => I64 y.1 ∧ I64 y.2) sA sl sc ∧ I64 af ∧ I64 g ∧ I64 p ∧ I64 re ∧ I64 v_a ∧ I64 v_b ∧ I64 u ∧ I64 t := by
  obtain ⟨xs, fu_, _, _, hl, hxl, hf⟩ := DataW.trod_struct Tryz.underlying32 h
  have h0 : DataW.trod enc Tryz.prog w 0 spare held fu_ 3 ((cs.drop 0).take (Tryz.prog.cellsOf 3)) = xs[0]? := hf 0 _ rfl
  rw [cz1] at h0
  have h1 : DataW.trod enc Tryz.prog w 0 spare held fu_ 3 ((cs.drop 1).take (Tryz.prog.cellsOf 3)) = xs[1]? := hf 1 _ rfl
  rw [cz1] at h1
  have h2 : DataW.trod enc Tryz.prog w 0 spare held fu_ 3 ((cs.drop 2).take (Tryz.prog.cellsOf 3)) = xs[2]? := hf 2 _ rfl
  rw [cz1] at h2
  have h3 : DataW.trod enc Tryz.prog w 0 spare held fu_ 3 ((cs.drop 3).take (Tryz.prog.cellsOf 3)) = xs[3]? := hf 3 _ rfl
  rw [cz1] at h3
  have h4 : DataW.trod enc Tryz.prog w 0 spare held fu_ 28 ((cs.drop 4).take (Tryz.prog.cellsOf 28)) = xs[4]? := hf 4 _ rfl
  rw [cz7] at h4
  have h5 : DataW.trod enc Tryz.prog w 0 spare held fu_ 3 ((cs.drop 5).take (Tryz.prog.cellsOf 3)) = xs[5]? := hf 5 _ rfl
  rw [cz1] at h5
  have h6 : DataW.trod enc Tryz.prog w 0 spare held fu_ 3 ((cs.drop 6).take (Tryz.prog.cellsOf 3)) = xs[6]? := hf 6 _ rfl
  rw [cz1] at h6
  have h7 : DataW.trod enc Tryz.prog w 0 spare held fu_ 4 ((cs.drop 7).take (Tryz.prog.cellsOf 4)) = xs[7]? := hf 7 _ rfl
  rw [cz0] at h7
  have h8 : DataW.trod enc Tryz.prog w 0 spare held fu_ 4 ((cs.drop 8).take (Tryz.prog.cellsOf 4)) = xs[8]? := hf 8 _ rfl
  rw [cz0] at h8
  have h9 : DataW.trod enc Tryz.prog w 0 spare held fu_ 3 ((cs.drop 9).take (Tryz.prog.cellsOf 3)) = xs[9]? := hf 9 _ rfl
  rw [cz1] at h9
  have h10 : DataW.trod enc Tryz.prog w 0 spare held fu_ 3 ((cs.drop 10).take (Tryz.prog.cellsOf 3)) = xs[10]? := hf 10 _ rfl
  rw [cz1] at h10
  have h11 : DataW.trod enc Tryz.prog w 0 spare held fu_ 30 ((cs.drop 11).take (Tryz.prog.cellsOf 30)) = xs[11]? := hf 11 _ rfl
  rw [cz3] at h11
  have h12 : DataW.trod enc Tryz.prog w 0 spare held fu_ 3 ((cs.drop 13).take (Tryz.prog.cellsOf 3)) = xs[12]? := hf 12 _ rfl
  rw [cz1] at h12
  have h13 : DataW.trod enc Tryz.prog w 0 spare held fu_ 3 ((cs.drop 14).take (Tryz.prog.cellsOf 3)) = xs[13]? := hf 13 _ rfl
  rw [cz1] at h13
  have h14 : DataW.trod enc Tryz.prog w 0 spare held fu_ 4 ((cs.drop 15).take (Tryz.prog.cellsOf 4)) = xs[14]? := hf 14 _ rfl
  rw [cz0] at h14
  rw [cz8] at hl
  match cs, hl, xs, hxl with
  | [u0, u1, u2, u3, u4, u5, u6, u7, u8, u9, u10, u11, u12, u13, u14, u15], _, [y0, y1, y2, y3, y4, y5, y6, y7, y8, y9, y10, y11, y12, y13, y14], _ =>
    replace h0 : DataW.trod enc Tryz.prog w 0 spare held fu_ 3 [u0] = some y0 := h0
    obtain ⟨k, q0, e0_0⟩ := trod_i64 h0
    cases q0
    replace h1 : DataW.trod enc Tryz.prog w 0 spare held fu_ 3 [u1] = some y1 := h1
    obtain ⟨r, q1, e1_0⟩ := trod_i64 h1
    cases q1
    replace h2 : DataW.trod enc Tryz.prog w 0 spare held fu_ 3 [u2] = some y2 := h2
    obtain ⟨a, q2, e2_0⟩ := trod_i64 h2
    cases q2
    replace h3 : DataW.trod enc Tryz.prog w 0 spare held fu_ 3 [u3] = some y3 := h3
    obtain ⟨n, q3, e3_0⟩ := trod_i64 h3
    cases q3
    replace h4 : DataW.trod enc Tryz.prog w 0 spare held fu_ 28 [u4] = some y4 := h4
    obtain ⟨sA, sl, sc, q4, e4_0⟩ := open_lstm (eS) 2 (fun y => I64 y.1 ∧ I64 y.2) (fun _ => rfl) (by omega) Tryz.underlying28 cz4 (fun _ _ _ h => el_co64 h) h4
    cases q4
    replace h5 : DataW.trod enc Tryz.prog w 0 spare held fu_ 3 [u5] = some y5 := h5
    obtain ⟨af, q5, e5_0⟩ := trod_i64 h5
    cases q5
    replace h6 : DataW.trod enc Tryz.prog w 0 spare held fu_ 3 [u6] = some y6 := h6
    obtain ⟨g, q6, e6_0⟩ := trod_i64 h6
    cases q6
    replace h7 : DataW.trod enc Tryz.prog w 0 spare held fu_ 4 [u7] = some y7 := h7
    obtain ⟨b, q7⟩ := trod_bo h7
    cases q7
    replace h8 : DataW.trod enc Tryz.prog w 0 spare held fu_ 4 [u8] = some y8 := h8
    obtain ⟨f, q8⟩ := trod_bo h8
    cases q8
    replace h9 : DataW.trod enc Tryz.prog w 0 spare held fu_ 3 [u9] = some y9 := h9
    obtain ⟨p, q9, e9_0⟩ := trod_i64 h9
    cases q9
    replace h10 : DataW.trod enc Tryz.prog w 0 spare held fu_ 3 [u10] = some y10 := h10
    obtain ⟨re, q10, e10_0⟩ := trod_i64 h10
    cases q10
    replace h11 : DataW.trod enc Tryz.prog w 0 spare held fu_ 30 [u11, u12] = some y11 := h11
    obtain ⟨v_a, v_b, q11, e11_0, e11_1⟩ := trod_ra h11
    cases q11
    replace h12 : DataW.trod enc Tryz.prog w 0 spare held fu_ 3 [u13] = some y12 := h12
    obtain ⟨u, q12, e12_0⟩ := trod_i64 h12
    cases q12
    replace h13 : DataW.trod enc Tryz.prog w 0 spare held fu_ 3 [u14] = some y13 := h13
    obtain ⟨t, q13, e13_0⟩ := trod_i64 h13
    cases q13
    replace h14 : DataW.trod enc Tryz.prog w 0 spare held fu_ 4 [u15] = some y14 := h14
    obtain ⟨w_, q14⟩ := trod_bo h14
    cases q14
    exact ⟨k, r, a, n, sA, sl, sc, af, g, b, f, p, re, v_a, v_b, u, t, w_, rfl, e0_0, e1_0, e2_0, e3_0, e4_0, e5_0, e6_0, e9_0, e10_0, e11_0, e11_1, e12_0, e13_0⟩
set_option maxRecDepth 100000 in
theorem trod_pa64 (h : DataW.trod enc Tryz.prog w 0 spare held fuel 34 cs = some x) : ∃ (ki : Int) (cA : Option Addr) (cl : List Int) (cc : Nat) (e_k : Int) (e_r : Int) (e_a : Int) (e_n : Int) (e_sA : Option Addr) (e_sl : List (Int × Int)) (e_sc : Nat) (e_af : Int) (e_g : Int) (e_b : Bool) (e_f : Bool) (e_p : Int) (e_re : Int) (e_v_a : Int) (e_v_b : Int) (e_u : Int) (e_t : Int) (e_w_ : Bool) (da : Int), cs = [.int .i64 ki, .slice cA cl.length cc, .int .i64 e_k, .int .i64 e_r, .int .i64 e_a, .int .i64 e_n, .slice e_sA e_sl.length e_sc, .int .i64 e_af, .int .i64 e_g, .bool e_b, .bool e_f, .int .i64 e_p, .int .i64 e_re, .int .i64 e_v_a, .int .i64 e_v_b, .int .i64 e_u, .int .i64 e_t, .bool e_w_, .int .i64 da] ∧ I64 ki ∧ LstM w (eI) 1 (fun y => I64 y) cA cl cc ∧ I64 e_k ∧ I64 e_r ∧ I64 e_a ∧ I64 e_n ∧ LstM w (eS) 2 (fun y => I64 y.1 ∧ I64 y.2) e_sA e_sl e_sc ∧ I64 e_af ∧ I64 e_g ∧ I64 e_p ∧ I64 e_re ∧ I64 e_v_a ∧ I64 e_v_b ∧ I64 e_u ∧ I64 e_t ∧ I64 da := by
  obtain ⟨xs, fu_, _, _, hl, hxl, hf⟩ := DataW.trod_struct Tryz.underlying34 h
  have h0 : DataW.trod enc Tryz.prog w 0 spare held fu_ 3 ((cs.drop 0).take (Tryz.prog.cellsOf 3)) = xs[0]? := hf 0 _ rfl
  rw [cz1] at h0
  have h1 : DataW.trod enc Tryz.prog w 0 spare held fu_ 22 ((cs.drop 1).take (Tryz.prog.cellsOf 22)) = xs[1]? := hf 1 _ rfl
  rw [cz9] at h1
  have h2 : DataW.trod enc Tryz.prog w 0 spare held fu_ 32 ((cs.drop 2).take (Tryz.prog.cellsOf 32)) = xs[2]? := hf 2 _ rfl
  rw [cz8] at h2
  have h3 : DataW.trod enc Tryz.prog w 0 spare held fu_ 3 ((cs.drop 18).take (Tryz.prog.cellsOf 3)) = xs[3]? := hf 3 _ rfl
  rw [cz1] at h3
  rw [cz14] at hl
  match cs, hl, xs, hxl with
  | [u0, u1, u2, u3, u4, u5, u6, u7, u8, u9, u10, u11, u12, u13, u14, u15, u16, u17, u18], _, [y0, y1, y2, y3], _ =>
    replace h0 : DataW.trod enc Tryz.prog w 0 spare held fu_ 3 [u0] = some y0 := h0
    obtain ⟨ki, q0, e0_0⟩ := trod_i64 h0
    cases q0
    replace h1 : DataW.trod enc Tryz.prog w 0 spare held fu_ 22 [u1] = some y1 := h1
    obtain ⟨cA, cl, cc, q1, e1_0⟩ := open_lstm (eI) 1 (fun y => I64 y) (fun _ => rfl) (by omega) Tryz.underlying22 cz1 (fun _ _ _ h => el_i64 h) h1
    cases q1
    replace h2 : DataW.trod enc Tryz.prog w 0 spare held fu_ 32 [u2, u3, u4, u5, u6, u7, u8, u9, u10, u11, u12, u13, u14, u15, u16, u17] = some y2 := h2
    obtain ⟨e_k, e_r, e_a, e_n, e_sA, e_sl, e_sc, e_af, e_g, e_b, e_f, e_p, e_re, e_v_a, e_v_b, e_u, e_t, e_w_, q2, e2_0, e2_1, e2_2, e2_3, e2_4, e2_5, e2_6, e2_7, e2_8, e2_9, e2_10, e2_11, e2_12⟩ := trod_cl64 h2
    cases q2
    replace h3 : DataW.trod enc Tryz.prog w 0 spare held fu_ 3 [u18] = some y3 := h3
    obtain ⟨da, q3, e3_0⟩ := trod_i64 h3
    cases q3
    exact ⟨ki, cA, cl, cc, e_k, e_r, e_a, e_n, e_sA, e_sl, e_sc, e_af, e_g, e_b, e_f, e_p, e_re, e_v_a, e_v_b, e_u, e_t, e_w_, da, rfl, e0_0, e1_0, e2_0, e2_1, e2_2, e2_3, e2_4, e2_5, e2_6, e2_7, e2_8, e2_9, e2_10, e2_11, e2_12, e3_0⟩
theorem lst_true {α : Type} {w : World} {enc : α → List Value} {size : Nat} {fit : α → Prop} {A : Option Addr} {l : List α} {c : Nat} (h : LstM w enc size fit A l c) : LstM w enc size (fun _ => True) A l c := ⟨h.1, h.2.1, fun _ _ => trivial, h.2.2.2⟩
theorem el_pa64 (h : DataW.trod enc Tryz.prog w 0 spare held fuel 34 cs = some x) : ∃ y : Pk, cs = eP y ∧ fitP w y ∧ ∀ n ∈ y.p.nums, I64 n := by
  obtain ⟨ki, cA, cl, cc, e_k, e_r, e_a, e_n, e_sA, e_sl, e_sc, e_af, e_g, e_b, e_f, e_p, e_re, e_v_a, e_v_b, e_u, e_t, e_w_, da, rfl, g0, g1, g2, g3, g4, g5, g6, g7, g8, g9, g10, g11, g12, g13, g14, g15⟩ := trod_pa64 h
  refine ⟨⟨⟨ki, cl, ⟨e_k, e_r, e_a, e_n, e_sl, e_af, e_g, e_b, e_f, e_p, e_re, (e_v_a, e_v_b), e_u, e_t, e_w_⟩, da⟩, ⟨cA, cc, e_sA, e_sc⟩⟩, rfl, ⟨lst_true g1, lst_true g6, g11, g12⟩, ?_⟩
  intro n hn
  have hb : ∀ b : Bool, I64 (bitI b) := by intro b; cases b <;> exact ⟨by decide, by decide⟩
  have hl1 : I64 ((cl.length : Nat) : Int) := by have h1 := g1.1; have h2 := g1.2.1.1; exact ⟨by omega, by omega⟩
  have hl2 : I64 ((e_sl.length : Nat) : Int) := by have h1 := g6.1; have h2 := g6.2.1.1; exact ⟨by omega, by omega⟩
  unfold Pat.nums at hn
  rcases List.mem_append.1 hn with hn | hn
  · rcases List.mem_append.1 hn with hn | hn
    · rcases List.mem_append.1 hn with hn | hn
      · simp only [List.mem_cons, List.not_mem_nil, or_false] at hn
        rcases hn with rfl | rfl | rfl
        · exact g0
        · exact g15
        · exact hl1
      · exact g1.2.2.1 n hn
    · simp only [Cla.numsA, List.mem_cons, List.not_mem_nil, or_false] at hn
      rcases hn with rfl | rfl | rfl | rfl | rfl | rfl | rfl | rfl | rfl | rfl | rfl | rfl | rfl | rfl | rfl | rfl
      · exact g2
      · exact g3
      · exact g4
      · exact g5
      · exact g7
      · exact g8
      · exact hb _
      · exact hb _
      · exact g9
      · exact g10
      · exact g11
      · exact g12
      · exact g13
      · exact g14
      · exact hb _
      · exact hl2
  · obtain ⟨s, hs, hn⟩ := List.mem_flatMap.1 hn
    have := g6.2.2.1 s hs
    simp only [List.mem_cons, List.not_mem_nil, or_false] at hn
    rcases hn with rfl | rfl
    · exact this.1
    · exact this.2
end
set_option maxRecDepth 100000 in
/-- a patch, opened, with the bounds of its numbers -/
theorem open_pat64 {H : Type} {enc : TypeId × Value → H} {w : World} {spare : Nat → Bool} {held : Bool} {b0 : Nat} {v : Value} {d : DataW H} {ps : List MemPlace} (hval : Value.okWide Tryz.prog w .any b0 34 v) (hd : DataW.Trod enc Tryz.prog w 0 spare held 34 v d ps) :
    ∃ (y : Pk), v = .agg (pL y.p y.m) ∧ fitP w y ∧ ∀ n ∈ y.p.nums, I64 n := by
  obtain ⟨cs, rfl, hcs⟩ := okWide_struct Tryz.underlying34 hval
  obtain ⟨fuel, hf⟩ := hd
  simp only [Value.cells] at hf
  obtain ⟨y, e, hy⟩ := el_pa64 hf
  obtain ⟨l⟩ := cs
  simp only at e
  subst e
  exact ⟨y, rfl, hy⟩
end Go.Proofs.YtplommmegkdhdaaGreatDoor
