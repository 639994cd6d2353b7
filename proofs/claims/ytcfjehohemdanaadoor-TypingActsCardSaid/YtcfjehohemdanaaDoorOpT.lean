/- Symbols as an argument, opened; what the listed variables give the walks. -/
import Derived.Test.YtcfjehohemdanaaDoorOpl
import Derived.Test.YtcfjehohemdanaaDoorTd5
import Derived.Test.YtcfjehohemdanaaDoorTie
namespace Go.Proofs.YtcfjehohemdanaaDoor
open Go.ChangeShapes Go.WideShapes Go.ChangeAt Go.RowKit Go.Deep
section
variable {H : Type} {enc : TypeId × Value → H} {w : World} {spare : Nat → Bool} {held : Bool} {fuel : Nat} {cs : List Value} {x : DataW H × List MemPlace}
theorem trod_i64 (h : DataW.trod enc Tryd.prog w 0 spare held fuel 3 cs = some x) : ∃ n : Int, cs = [.int .i64 n] ∧ b64 n := by
  obtain ⟨n, h1, _, h3⟩ := DataW.trod_int Tryd.underlying3 h
  exact ⟨n, h1, bounds_i64 h3⟩
theorem trod_bo (h : DataW.trod enc Tryd.prog w 0 spare held fuel 4 cs = some x) : ∃ b : Bool, cs = [.bool b] := by
  obtain ⟨b, e1, _⟩ := DataW.trod_bool Tryd.underlying4 h
  exact ⟨b, e1⟩
theorem trod_str (h : DataW.trod enc Tryd.prog w 0 spare held fuel 9 cs = some x) : ∃ s : ByteArray, cs = [.string s] := by
  obtain ⟨s, e1, _⟩ := DataW.trod_string Tryd.underlying9 h
  exact ⟨s, e1⟩
theorem cz0 : Tryd.prog.cellsOf 4 = 1 := by kernel_rfl
theorem cz1 : Tryd.prog.cellsOf 3 = 1 := by kernel_rfl
theorem cz2 : Tryd.prog.cellsOf 9 = 1 := by kernel_rfl
theorem cz3 : Tryd.prog.cellsOf 24 = 7 := by kernel_rfl
set_option maxRecDepth 100000 in
theorem trod_b7 (h : DataW.trod enc Tryd.prog w 0 spare held fuel 24 cs = some x) : ∃ b0 b1 b2 b3 b4 b5 b6 : Bool, cs = [.bool b0, .bool b1, .bool b2, .bool b3, .bool b4, .bool b5, .bool b6] := by
  obtain ⟨zs, m, _, _, hl, hz, hel⟩ := DataW.trod_array Tryd.underlying24 h
  have cB : Tryd.prog.cellsOf 4 = 1 := cz0
  have hcs : cs.length = 7 := by rw [cz3] at hl; exact hl
  match cs, hcs with
  | [c0, c1, c2, c3, c4, c5, c6], _ =>
    have one : ∀ i (hi : i < 7) (c : Value), [c0, c1, c2, c3, c4, c5, c6][i]? = some c → ∃ b, c = .bool b := by
      intro i hi c hc
      have := hel i hi
      rw [cB, Nat.mul_one, List.getElem?_eq_getElem (by omega)] at this
      obtain ⟨b, e1, _⟩ := DataW.trod_bool Tryd.underlying4 this
      refine ⟨b, ?_⟩
      have h2 := congrArg (·[0]?) e1
      have h3 : ([c0, c1, c2, c3, c4, c5, c6] : List Value)[i]? = some (.bool b) := by
        simpa [List.getElem?_take] using h2
      rw [hc] at h3
      exact Option.some.inj h3
    obtain ⟨a0, rfl⟩ := one 0 (by omega) c0 rfl
    obtain ⟨a1, rfl⟩ := one 1 (by omega) c1 rfl
    obtain ⟨a2, rfl⟩ := one 2 (by omega) c2 rfl
    obtain ⟨a3, rfl⟩ := one 3 (by omega) c3 rfl
    obtain ⟨a4, rfl⟩ := one 4 (by omega) c4 rfl
    obtain ⟨a5, rfl⟩ := one 5 (by omega) c5 rfl
    obtain ⟨a6, rfl⟩ := one 6 (by omega) c6 rfl
    exact ⟨a0, a1, a2, a3, a4, a5, a6, rfl⟩
theorem cz4 : Tryd.prog.cellsOf 23 = 3 := by kernel_rfl
set_option maxRecDepth 100000 in
theorem trod_ci (h : DataW.trod enc Tryd.prog w 0 spare held fuel 23 cs = some x) : ∃ (y : Int) (mo : Int) (dd : Int), cs = [.int .i64 y, .int .i64 mo, .int .i64 dd] ∧ b64 y ∧ b64 mo ∧ b64 dd := by
  obtain ⟨xs, fu_, _, _, hl, hxl, hf⟩ := DataW.trod_struct Tryd.underlying23 h
  have h0 : DataW.trod enc Tryd.prog w 0 spare held fu_ 3 ((cs.drop 0).take (Tryd.prog.cellsOf 3)) = xs[0]? := hf 0 _ rfl
  rw [cz1] at h0
  have h1 : DataW.trod enc Tryd.prog w 0 spare held fu_ 3 ((cs.drop 1).take (Tryd.prog.cellsOf 3)) = xs[1]? := hf 1 _ rfl
  rw [cz1] at h1
  have h2 : DataW.trod enc Tryd.prog w 0 spare held fu_ 3 ((cs.drop 2).take (Tryd.prog.cellsOf 3)) = xs[2]? := hf 2 _ rfl
  rw [cz1] at h2
  rw [cz4] at hl
  match cs, hl, xs, hxl with
  | [u0, u1, u2], _, [y0, y1, y2], _ =>
    replace h0 : DataW.trod enc Tryd.prog w 0 spare held fu_ 3 [u0] = some y0 := h0
    obtain ⟨y, q0, e0_0⟩ := trod_i64 h0
    cases q0
    replace h1 : DataW.trod enc Tryd.prog w 0 spare held fu_ 3 [u1] = some y1 := h1
    obtain ⟨mo, q1, e1_0⟩ := trod_i64 h1
    cases q1
    replace h2 : DataW.trod enc Tryd.prog w 0 spare held fu_ 3 [u2] = some y2 := h2
    obtain ⟨dd, q2, e2_0⟩ := trod_i64 h2
    cases q2
    exact ⟨y, mo, dd, rfl, e0_0, e1_0, e2_0⟩
theorem cz5 : Tryd.prog.cellsOf 47 = 2 := by kernel_rfl
set_option maxRecDepth 100000 in
theorem trod_ra (h : DataW.trod enc Tryd.prog w 0 spare held fuel 47 cs = some x) : ∃ (a : Int) (b : Int), cs = [.int .i64 a, .int .i64 b] ∧ b64 a ∧ b64 b := by
  obtain ⟨xs, fu_, _, _, hl, hxl, hf⟩ := DataW.trod_struct Tryd.underlying47 h
  have h0 : DataW.trod enc Tryd.prog w 0 spare held fu_ 3 ((cs.drop 0).take (Tryd.prog.cellsOf 3)) = xs[0]? := hf 0 _ rfl
  rw [cz1] at h0
  have h1 : DataW.trod enc Tryd.prog w 0 spare held fu_ 3 ((cs.drop 1).take (Tryd.prog.cellsOf 3)) = xs[1]? := hf 1 _ rfl
  rw [cz1] at h1
  rw [cz5] at hl
  match cs, hl, xs, hxl with
  | [u0, u1], _, [y0, y1], _ =>
    replace h0 : DataW.trod enc Tryd.prog w 0 spare held fu_ 3 [u0] = some y0 := h0
    obtain ⟨a, q0, e0_0⟩ := trod_i64 h0
    cases q0
    replace h1 : DataW.trod enc Tryd.prog w 0 spare held fu_ 3 [u1] = some y1 := h1
    obtain ⟨b, q1, e1_0⟩ := trod_i64 h1
    cases q1
    exact ⟨a, b, rfl, e0_0, e1_0⟩
theorem cz6 : Tryd.prog.cellsOf 44 = 3 := by kernel_rfl
set_option maxRecDepth 100000 in
theorem trod_sp (h : DataW.trod enc Tryd.prog w 0 spare held fuel 44 cs = some x) : ∃ (d : Int) (b : Bool) (nm : ByteArray), cs = [.int .i64 d, .bool b, .string nm] ∧ b64 d := by
  obtain ⟨xs, fu_, _, _, hl, hxl, hf⟩ := DataW.trod_struct Tryd.underlying44 h
  have h0 : DataW.trod enc Tryd.prog w 0 spare held fu_ 3 ((cs.drop 0).take (Tryd.prog.cellsOf 3)) = xs[0]? := hf 0 _ rfl
  rw [cz1] at h0
  have h1 : DataW.trod enc Tryd.prog w 0 spare held fu_ 4 ((cs.drop 1).take (Tryd.prog.cellsOf 4)) = xs[1]? := hf 1 _ rfl
  rw [cz0] at h1
  have h2 : DataW.trod enc Tryd.prog w 0 spare held fu_ 9 ((cs.drop 2).take (Tryd.prog.cellsOf 9)) = xs[2]? := hf 2 _ rfl
  rw [cz2] at h2
  rw [cz6] at hl
  match cs, hl, xs, hxl with
  | [u0, u1, u2], _, [y0, y1, y2], _ =>
    replace h0 : DataW.trod enc Tryd.prog w 0 spare held fu_ 3 [u0] = some y0 := h0
    obtain ⟨d, q0, e0_0⟩ := trod_i64 h0
    cases q0
    replace h1 : DataW.trod enc Tryd.prog w 0 spare held fu_ 4 [u1] = some y1 := h1
    obtain ⟨b, q1⟩ := trod_bo h1
    cases q1
    replace h2 : DataW.trod enc Tryd.prog w 0 spare held fu_ 9 [u2] = some y2 := h2
    obtain ⟨nm, q2⟩ := trod_str h2
    cases q2
    exact ⟨d, b, nm, rfl, e0_0⟩
theorem cz7 : Tryd.prog.cellsOf 91 = 2 := by kernel_rfl
set_option maxRecDepth 100000 in
theorem trod_co (h : DataW.trod enc Tryd.prog w 0 spare held fuel 91 cs = some x) : ∃ (a : Int) (b : Int), cs = [.int .i64 a, .int .i64 b] ∧ b64 a ∧ b64 b := by
  obtain ⟨xs, fu_, _, _, hl, hxl, hf⟩ := DataW.trod_struct Tryd.underlying91 h
  have h0 : DataW.trod enc Tryd.prog w 0 spare held fu_ 3 ((cs.drop 0).take (Tryd.prog.cellsOf 3)) = xs[0]? := hf 0 _ rfl
  rw [cz1] at h0
  have h1 : DataW.trod enc Tryd.prog w 0 spare held fu_ 3 ((cs.drop 1).take (Tryd.prog.cellsOf 3)) = xs[1]? := hf 1 _ rfl
  rw [cz1] at h1
  rw [cz7] at hl
  match cs, hl, xs, hxl with
  | [u0, u1], _, [y0, y1], _ =>
    replace h0 : DataW.trod enc Tryd.prog w 0 spare held fu_ 3 [u0] = some y0 := h0
    obtain ⟨a, q0, e0_0⟩ := trod_i64 h0
    cases q0
    replace h1 : DataW.trod enc Tryd.prog w 0 spare held fu_ 3 [u1] = some y1 := h1
    obtain ⟨b, q1, e1_0⟩ := trod_i64 h1
    cases q1
    exact ⟨a, b, rfl, e0_0, e1_0⟩
theorem el_co (h : DataW.trod enc Tryd.prog w 0 spare held fuel 91 cs = some x) : ∃ y : Int × Int, cs = encCo y ∧ True := by
  obtain ⟨a, b, rfl, _⟩ := trod_co h
  exact ⟨(a, b), rfl, trivial⟩
theorem cz8 : Tryd.prog.cellsOf 56 = 2 := by kernel_rfl
set_option maxRecDepth 100000 in
theorem trod_ro (h : DataW.trod enc Tryd.prog w 0 spare held fuel 56 cs = some x) : ∃ (nm : ByteArray) (p : Int), cs = [.string nm, .int .i64 p] ∧ b64 p := by
  obtain ⟨xs, fu_, _, _, hl, hxl, hf⟩ := DataW.trod_struct Tryd.underlying56 h
  have h0 : DataW.trod enc Tryd.prog w 0 spare held fu_ 9 ((cs.drop 0).take (Tryd.prog.cellsOf 9)) = xs[0]? := hf 0 _ rfl
  rw [cz2] at h0
  have h1 : DataW.trod enc Tryd.prog w 0 spare held fu_ 3 ((cs.drop 1).take (Tryd.prog.cellsOf 3)) = xs[1]? := hf 1 _ rfl
  rw [cz1] at h1
  rw [cz8] at hl
  match cs, hl, xs, hxl with
  | [u0, u1], _, [y0, y1], _ =>
    replace h0 : DataW.trod enc Tryd.prog w 0 spare held fu_ 9 [u0] = some y0 := h0
    obtain ⟨nm, q0⟩ := trod_str h0
    cases q0
    replace h1 : DataW.trod enc Tryd.prog w 0 spare held fu_ 3 [u1] = some y1 := h1
    obtain ⟨p, q1, e1_0⟩ := trod_i64 h1
    cases q1
    exact ⟨nm, p, rfl, e1_0⟩
theorem el_ro (h : DataW.trod enc Tryd.prog w 0 spare held fuel 56 cs = some x) : ∃ y : Ro, cs = encRo y ∧ True := by
  obtain ⟨a, b, rfl, _⟩ := trod_ro h
  exact ⟨⟨a, b⟩, rfl, trivial⟩
theorem cz9 : Tryd.prog.cellsOf 82 = 5 := by kernel_rfl
set_option maxRecDepth 100000 in
theorem trod_un (h : DataW.trod enc Tryd.prog w 0 spare held fuel 82 cs = some x) : ∃ (nm : ByteArray) (k : Int) (ba : Int) (f_a : Int) (f_b : Int), cs = [.string nm, .int .i64 k, .int .i64 ba, .int .i64 f_a, .int .i64 f_b] ∧ b64 k ∧ b64 ba ∧ b64 f_a ∧ b64 f_b := by
  obtain ⟨xs, fu_, _, _, hl, hxl, hf⟩ := DataW.trod_struct Tryd.underlying82 h
  have h0 : DataW.trod enc Tryd.prog w 0 spare held fu_ 9 ((cs.drop 0).take (Tryd.prog.cellsOf 9)) = xs[0]? := hf 0 _ rfl
  rw [cz2] at h0
  have h1 : DataW.trod enc Tryd.prog w 0 spare held fu_ 3 ((cs.drop 1).take (Tryd.prog.cellsOf 3)) = xs[1]? := hf 1 _ rfl
  rw [cz1] at h1
  have h2 : DataW.trod enc Tryd.prog w 0 spare held fu_ 3 ((cs.drop 2).take (Tryd.prog.cellsOf 3)) = xs[2]? := hf 2 _ rfl
  rw [cz1] at h2
  have h3 : DataW.trod enc Tryd.prog w 0 spare held fu_ 47 ((cs.drop 3).take (Tryd.prog.cellsOf 47)) = xs[3]? := hf 3 _ rfl
  rw [cz5] at h3
  rw [cz9] at hl
  match cs, hl, xs, hxl with
  | [u0, u1, u2, u3, u4], _, [y0, y1, y2, y3], _ =>
    replace h0 : DataW.trod enc Tryd.prog w 0 spare held fu_ 9 [u0] = some y0 := h0
    obtain ⟨nm, q0⟩ := trod_str h0
    cases q0
    replace h1 : DataW.trod enc Tryd.prog w 0 spare held fu_ 3 [u1] = some y1 := h1
    obtain ⟨k, q1, e1_0⟩ := trod_i64 h1
    cases q1
    replace h2 : DataW.trod enc Tryd.prog w 0 spare held fu_ 3 [u2] = some y2 := h2
    obtain ⟨ba, q2, e2_0⟩ := trod_i64 h2
    cases q2
    replace h3 : DataW.trod enc Tryd.prog w 0 spare held fu_ 47 [u3, u4] = some y3 := h3
    obtain ⟨f_a, f_b, q3, e3_0, e3_1⟩ := trod_ra h3
    cases q3
    exact ⟨nm, k, ba, f_a, f_b, rfl, e1_0, e2_0, e3_0, e3_1⟩
theorem el_un (h : DataW.trod enc Tryd.prog w 0 spare held fuel 82 cs = some x) : ∃ y : Un, cs = encUn y ∧ (b64 y.f.1 ∧ b64 y.f.2) := by
  obtain ⟨a, b, c, d, e, rfl, _, _, f1, f2⟩ := trod_un h
  exact ⟨⟨a, b, c, (d, e)⟩, rfl, f1, f2⟩
theorem cz10 : Tryd.prog.cellsOf 58 = 7 := by kernel_rfl
set_option maxRecDepth 100000 in
theorem trod_at (h : DataW.trod enc Tryd.prog w 0 spare held fuel 58 cs = some x) : ∃ (k : Int) (r : Int) (g : Int) (t : Int) (u : Int) (l_a : Int) (l_b : Int), cs = [.int .i64 k, .int .i64 r, .int .i64 g, .int .i64 t, .int .i64 u, .int .i64 l_a, .int .i64 l_b] ∧ b64 k ∧ b64 r ∧ b64 g ∧ b64 t ∧ b64 u ∧ b64 l_a ∧ b64 l_b := by
  obtain ⟨xs, fu_, _, _, hl, hxl, hf⟩ := DataW.trod_struct Tryd.underlying58 h
  have h0 : DataW.trod enc Tryd.prog w 0 spare held fu_ 3 ((cs.drop 0).take (Tryd.prog.cellsOf 3)) = xs[0]? := hf 0 _ rfl
  rw [cz1] at h0
  have h1 : DataW.trod enc Tryd.prog w 0 spare held fu_ 3 ((cs.drop 1).take (Tryd.prog.cellsOf 3)) = xs[1]? := hf 1 _ rfl
  rw [cz1] at h1
  have h2 : DataW.trod enc Tryd.prog w 0 spare held fu_ 3 ((cs.drop 2).take (Tryd.prog.cellsOf 3)) = xs[2]? := hf 2 _ rfl
  rw [cz1] at h2
  have h3 : DataW.trod enc Tryd.prog w 0 spare held fu_ 3 ((cs.drop 3).take (Tryd.prog.cellsOf 3)) = xs[3]? := hf 3 _ rfl
  rw [cz1] at h3
  have h4 : DataW.trod enc Tryd.prog w 0 spare held fu_ 3 ((cs.drop 4).take (Tryd.prog.cellsOf 3)) = xs[4]? := hf 4 _ rfl
  rw [cz1] at h4
  have h5 : DataW.trod enc Tryd.prog w 0 spare held fu_ 47 ((cs.drop 5).take (Tryd.prog.cellsOf 47)) = xs[5]? := hf 5 _ rfl
  rw [cz5] at h5
  rw [cz10] at hl
  match cs, hl, xs, hxl with
  | [u0, u1, u2, u3, u4, u5, u6], _, [y0, y1, y2, y3, y4, y5], _ =>
    replace h0 : DataW.trod enc Tryd.prog w 0 spare held fu_ 3 [u0] = some y0 := h0
    obtain ⟨k, q0, e0_0⟩ := trod_i64 h0
    cases q0
    replace h1 : DataW.trod enc Tryd.prog w 0 spare held fu_ 3 [u1] = some y1 := h1
    obtain ⟨r, q1, e1_0⟩ := trod_i64 h1
    cases q1
    replace h2 : DataW.trod enc Tryd.prog w 0 spare held fu_ 3 [u2] = some y2 := h2
    obtain ⟨g, q2, e2_0⟩ := trod_i64 h2
    cases q2
    replace h3 : DataW.trod enc Tryd.prog w 0 spare held fu_ 3 [u3] = some y3 := h3
    obtain ⟨t, q3, e3_0⟩ := trod_i64 h3
    cases q3
    replace h4 : DataW.trod enc Tryd.prog w 0 spare held fu_ 3 [u4] = some y4 := h4
    obtain ⟨u, q4, e4_0⟩ := trod_i64 h4
    cases q4
    replace h5 : DataW.trod enc Tryd.prog w 0 spare held fu_ 47 [u5, u6] = some y5 := h5
    obtain ⟨l_a, l_b, q5, e5_0, e5_1⟩ := trod_ra h5
    cases q5
    exact ⟨k, r, g, t, u, l_a, l_b, rfl, e0_0, e1_0, e2_0, e3_0, e4_0, e5_0, e5_1⟩
theorem cz11 : Tryd.prog.cellsOf 60 = 9 := by kernel_rfl
set_option maxRecDepth 100000 in
theorem trod_as (h : DataW.trod enc Tryd.prog w 0 spare held fuel 60 cs = some x) : ∃ (nm : ByteArray) (p : Int) (a_k : Int) (a_r : Int) (a_g : Int) (a_t : Int) (a_u : Int) (a_l_a : Int) (a_l_b : Int), cs = [.string nm, .int .i64 p, .int .i64 a_k, .int .i64 a_r, .int .i64 a_g, .int .i64 a_t, .int .i64 a_u, .int .i64 a_l_a, .int .i64 a_l_b] ∧ b64 p ∧ b64 a_k ∧ b64 a_r ∧ b64 a_g ∧ b64 a_t ∧ b64 a_u ∧ b64 a_l_a ∧ b64 a_l_b := by
  obtain ⟨xs, fu_, _, _, hl, hxl, hf⟩ := DataW.trod_struct Tryd.underlying60 h
  have h0 : DataW.trod enc Tryd.prog w 0 spare held fu_ 9 ((cs.drop 0).take (Tryd.prog.cellsOf 9)) = xs[0]? := hf 0 _ rfl
  rw [cz2] at h0
  have h1 : DataW.trod enc Tryd.prog w 0 spare held fu_ 3 ((cs.drop 1).take (Tryd.prog.cellsOf 3)) = xs[1]? := hf 1 _ rfl
  rw [cz1] at h1
  have h2 : DataW.trod enc Tryd.prog w 0 spare held fu_ 58 ((cs.drop 2).take (Tryd.prog.cellsOf 58)) = xs[2]? := hf 2 _ rfl
  rw [cz10] at h2
  rw [cz11] at hl
  match cs, hl, xs, hxl with
  | [u0, u1, u2, u3, u4, u5, u6, u7, u8], _, [y0, y1, y2], _ =>
    replace h0 : DataW.trod enc Tryd.prog w 0 spare held fu_ 9 [u0] = some y0 := h0
    obtain ⟨nm, q0⟩ := trod_str h0
    cases q0
    replace h1 : DataW.trod enc Tryd.prog w 0 spare held fu_ 3 [u1] = some y1 := h1
    obtain ⟨p, q1, e1_0⟩ := trod_i64 h1
    cases q1
    replace h2 : DataW.trod enc Tryd.prog w 0 spare held fu_ 58 [u2, u3, u4, u5, u6, u7, u8] = some y2 := h2
    obtain ⟨a_k, a_r, a_g, a_t, a_u, a_l_a, a_l_b, q2, e2_0, e2_1, e2_2, e2_3, e2_4, e2_5, e2_6⟩ := trod_at h2
    cases q2
    exact ⟨nm, p, a_k, a_r, a_g, a_t, a_u, a_l_a, a_l_b, rfl, e1_0, e2_0, e2_1, e2_2, e2_3, e2_4, e2_5, e2_6⟩
theorem el_as (h : DataW.trod enc Tryd.prog w 0 spare held fuel 60 cs = some x) : ∃ y : As, cs = encAs y ∧ (b64 y.a.lot.1 ∧ b64 y.a.lot.2) := by
  obtain ⟨nm, p, k, r, g, t, u, a, b, rfl, _, _, _, _, _, _, f1, f2⟩ := trod_as h
  exact ⟨⟨nm, p, ⟨k, r, g, t, u, (a, b)⟩⟩, rfl, f1, f2⟩
theorem cz12 : Tryd.prog.cellsOf 45 = 1 := by kernel_rfl
theorem cz13 : Tryd.prog.cellsOf 49 = 16 := by kernel_rfl
set_option maxRecDepth 100000 in
theorem trod_cl (h : DataW.trod enc Tryd.prog w 0 spare held fuel 49 cs = some x) : ∃ (k : Int) (r : Int) (a : Int) (n : Int) (sA : Option Addr) (sl : List (Int × Int)) (sc : Nat) (af : Int) (g : Int) (b : Bool) (f : Bool) (p : Int) (re : Int) (v_a : Int) (v_b : Int) (u : Int) (t : Int) (w_ : Bool), cs = [.int .i64 k, .int .i64 r, .int .i64 a, .int .i64 n, .slice sA sl.length sc, .int .i64 af, .int .i64 g, .bool b, .bool f, .int .i64 p, .int .i64 re, .int .i64 v_a, .int .i64 v_b, .int .i64 u, .int .i64 t, .bool w_] ∧ b64 k ∧ b64 r ∧ b64 a ∧ b64 n ∧ Lst w (encCo) 2 (fun _ => True) sA sl sc ∧ b64 af ∧ b64 g ∧ b64 p ∧ b64 re ∧ b64 v_a ∧ b64 v_b ∧ b64 u ∧ b64 t := by
  obtain ⟨xs, fu_, _, _, hl, hxl, hf⟩ := DataW.trod_struct Tryd.underlying49 h
  have h0 : DataW.trod enc Tryd.prog w 0 spare held fu_ 3 ((cs.drop 0).take (Tryd.prog.cellsOf 3)) = xs[0]? := hf 0 _ rfl
  rw [cz1] at h0
  have h1 : DataW.trod enc Tryd.prog w 0 spare held fu_ 3 ((cs.drop 1).take (Tryd.prog.cellsOf 3)) = xs[1]? := hf 1 _ rfl
  rw [cz1] at h1
  have h2 : DataW.trod enc Tryd.prog w 0 spare held fu_ 3 ((cs.drop 2).take (Tryd.prog.cellsOf 3)) = xs[2]? := hf 2 _ rfl
  rw [cz1] at h2
  have h3 : DataW.trod enc Tryd.prog w 0 spare held fu_ 3 ((cs.drop 3).take (Tryd.prog.cellsOf 3)) = xs[3]? := hf 3 _ rfl
  rw [cz1] at h3
  have h4 : DataW.trod enc Tryd.prog w 0 spare held fu_ 45 ((cs.drop 4).take (Tryd.prog.cellsOf 45)) = xs[4]? := hf 4 _ rfl
  rw [cz12] at h4
  have h5 : DataW.trod enc Tryd.prog w 0 spare held fu_ 3 ((cs.drop 5).take (Tryd.prog.cellsOf 3)) = xs[5]? := hf 5 _ rfl
  rw [cz1] at h5
  have h6 : DataW.trod enc Tryd.prog w 0 spare held fu_ 3 ((cs.drop 6).take (Tryd.prog.cellsOf 3)) = xs[6]? := hf 6 _ rfl
  rw [cz1] at h6
  have h7 : DataW.trod enc Tryd.prog w 0 spare held fu_ 4 ((cs.drop 7).take (Tryd.prog.cellsOf 4)) = xs[7]? := hf 7 _ rfl
  rw [cz0] at h7
  have h8 : DataW.trod enc Tryd.prog w 0 spare held fu_ 4 ((cs.drop 8).take (Tryd.prog.cellsOf 4)) = xs[8]? := hf 8 _ rfl
  rw [cz0] at h8
  have h9 : DataW.trod enc Tryd.prog w 0 spare held fu_ 3 ((cs.drop 9).take (Tryd.prog.cellsOf 3)) = xs[9]? := hf 9 _ rfl
  rw [cz1] at h9
  have h10 : DataW.trod enc Tryd.prog w 0 spare held fu_ 3 ((cs.drop 10).take (Tryd.prog.cellsOf 3)) = xs[10]? := hf 10 _ rfl
  rw [cz1] at h10
  have h11 : DataW.trod enc Tryd.prog w 0 spare held fu_ 47 ((cs.drop 11).take (Tryd.prog.cellsOf 47)) = xs[11]? := hf 11 _ rfl
  rw [cz5] at h11
  have h12 : DataW.trod enc Tryd.prog w 0 spare held fu_ 3 ((cs.drop 13).take (Tryd.prog.cellsOf 3)) = xs[12]? := hf 12 _ rfl
  rw [cz1] at h12
  have h13 : DataW.trod enc Tryd.prog w 0 spare held fu_ 3 ((cs.drop 14).take (Tryd.prog.cellsOf 3)) = xs[13]? := hf 13 _ rfl
  rw [cz1] at h13
  have h14 : DataW.trod enc Tryd.prog w 0 spare held fu_ 4 ((cs.drop 15).take (Tryd.prog.cellsOf 4)) = xs[14]? := hf 14 _ rfl
  rw [cz0] at h14
  rw [cz13] at hl
  match cs, hl, xs, hxl with
  | [u0, u1, u2, u3, u4, u5, u6, u7, u8, u9, u10, u11, u12, u13, u14, u15], _, [y0, y1, y2, y3, y4, y5, y6, y7, y8, y9, y10, y11, y12, y13, y14], _ =>
    replace h0 : DataW.trod enc Tryd.prog w 0 spare held fu_ 3 [u0] = some y0 := h0
    obtain ⟨k, q0, e0_0⟩ := trod_i64 h0
    cases q0
    replace h1 : DataW.trod enc Tryd.prog w 0 spare held fu_ 3 [u1] = some y1 := h1
    obtain ⟨r, q1, e1_0⟩ := trod_i64 h1
    cases q1
    replace h2 : DataW.trod enc Tryd.prog w 0 spare held fu_ 3 [u2] = some y2 := h2
    obtain ⟨a, q2, e2_0⟩ := trod_i64 h2
    cases q2
    replace h3 : DataW.trod enc Tryd.prog w 0 spare held fu_ 3 [u3] = some y3 := h3
    obtain ⟨n, q3, e3_0⟩ := trod_i64 h3
    cases q3
    replace h4 : DataW.trod enc Tryd.prog w 0 spare held fu_ 45 [u4] = some y4 := h4
    obtain ⟨sA, sl, sc, q4, e4_0⟩ := open_lst (encCo) 2 (fun _ => True) (fun _ => rfl) (by omega) Tryd.underlying45 cz7 (fun _ _ _ h => el_co h) h4
    cases q4
    replace h5 : DataW.trod enc Tryd.prog w 0 spare held fu_ 3 [u5] = some y5 := h5
    obtain ⟨af, q5, e5_0⟩ := trod_i64 h5
    cases q5
    replace h6 : DataW.trod enc Tryd.prog w 0 spare held fu_ 3 [u6] = some y6 := h6
    obtain ⟨g, q6, e6_0⟩ := trod_i64 h6
    cases q6
    replace h7 : DataW.trod enc Tryd.prog w 0 spare held fu_ 4 [u7] = some y7 := h7
    obtain ⟨b, q7⟩ := trod_bo h7
    cases q7
    replace h8 : DataW.trod enc Tryd.prog w 0 spare held fu_ 4 [u8] = some y8 := h8
    obtain ⟨f, q8⟩ := trod_bo h8
    cases q8
    replace h9 : DataW.trod enc Tryd.prog w 0 spare held fu_ 3 [u9] = some y9 := h9
    obtain ⟨p, q9, e9_0⟩ := trod_i64 h9
    cases q9
    replace h10 : DataW.trod enc Tryd.prog w 0 spare held fu_ 3 [u10] = some y10 := h10
    obtain ⟨re, q10, e10_0⟩ := trod_i64 h10
    cases q10
    replace h11 : DataW.trod enc Tryd.prog w 0 spare held fu_ 47 [u11, u12] = some y11 := h11
    obtain ⟨v_a, v_b, q11, e11_0, e11_1⟩ := trod_ra h11
    cases q11
    replace h12 : DataW.trod enc Tryd.prog w 0 spare held fu_ 3 [u13] = some y12 := h12
    obtain ⟨u, q12, e12_0⟩ := trod_i64 h12
    cases q12
    replace h13 : DataW.trod enc Tryd.prog w 0 spare held fu_ 3 [u14] = some y13 := h13
    obtain ⟨t, q13, e13_0⟩ := trod_i64 h13
    cases q13
    replace h14 : DataW.trod enc Tryd.prog w 0 spare held fu_ 4 [u15] = some y14 := h14
    obtain ⟨w_, q14⟩ := trod_bo h14
    cases q14
    exact ⟨k, r, a, n, sA, sl, sc, af, g, b, f, p, re, v_a, v_b, u, t, w_, rfl, e0_0, e1_0, e2_0, e3_0, e4_0, e5_0, e6_0, e9_0, e10_0, e11_0, e11_1, e12_0, e13_0⟩
theorem cz14 : Tryd.prog.cellsOf 51 = 24 := by kernel_rfl
set_option maxRecDepth 100000 in
theorem trod_cs (h : DataW.trod enc Tryd.prog w 0 spare held fuel 51 cs = some x) : ∃ (nm : ByteArray) (p : Int) (wi_d : Int) (wi_b : Bool) (wi_nm : ByteArray) (gr_d : Int) (gr_b : Bool) (gr_nm : ByteArray) (c_k : Int) (c_r : Int) (c_a : Int) (c_n : Int) (c_sA : Option Addr) (c_sl : List (Int × Int)) (c_sc : Nat) (c_af : Int) (c_g : Int) (c_b : Bool) (c_f : Bool) (c_p : Int) (c_re : Int) (c_v_a : Int) (c_v_b : Int) (c_u : Int) (c_t : Int) (c_w_ : Bool), cs = [.string nm, .int .i64 p, .int .i64 wi_d, .bool wi_b, .string wi_nm, .int .i64 gr_d, .bool gr_b, .string gr_nm, .int .i64 c_k, .int .i64 c_r, .int .i64 c_a, .int .i64 c_n, .slice c_sA c_sl.length c_sc, .int .i64 c_af, .int .i64 c_g, .bool c_b, .bool c_f, .int .i64 c_p, .int .i64 c_re, .int .i64 c_v_a, .int .i64 c_v_b, .int .i64 c_u, .int .i64 c_t, .bool c_w_] ∧ b64 p ∧ b64 wi_d ∧ b64 gr_d ∧ b64 c_k ∧ b64 c_r ∧ b64 c_a ∧ b64 c_n ∧ Lst w (encCo) 2 (fun _ => True) c_sA c_sl c_sc ∧ b64 c_af ∧ b64 c_g ∧ b64 c_p ∧ b64 c_re ∧ b64 c_v_a ∧ b64 c_v_b ∧ b64 c_u ∧ b64 c_t := by
  obtain ⟨xs, fu_, _, _, hl, hxl, hf⟩ := DataW.trod_struct Tryd.underlying51 h
  have h0 : DataW.trod enc Tryd.prog w 0 spare held fu_ 9 ((cs.drop 0).take (Tryd.prog.cellsOf 9)) = xs[0]? := hf 0 _ rfl
  rw [cz2] at h0
  have h1 : DataW.trod enc Tryd.prog w 0 spare held fu_ 3 ((cs.drop 1).take (Tryd.prog.cellsOf 3)) = xs[1]? := hf 1 _ rfl
  rw [cz1] at h1
  have h2 : DataW.trod enc Tryd.prog w 0 spare held fu_ 44 ((cs.drop 2).take (Tryd.prog.cellsOf 44)) = xs[2]? := hf 2 _ rfl
  rw [cz6] at h2
  have h3 : DataW.trod enc Tryd.prog w 0 spare held fu_ 44 ((cs.drop 5).take (Tryd.prog.cellsOf 44)) = xs[3]? := hf 3 _ rfl
  rw [cz6] at h3
  have h4 : DataW.trod enc Tryd.prog w 0 spare held fu_ 49 ((cs.drop 8).take (Tryd.prog.cellsOf 49)) = xs[4]? := hf 4 _ rfl
  rw [cz13] at h4
  rw [cz14] at hl
  match cs, hl, xs, hxl with
  | [u0, u1, u2, u3, u4, u5, u6, u7, u8, u9, u10, u11, u12, u13, u14, u15, u16, u17, u18, u19, u20, u21, u22, u23], _, [y0, y1, y2, y3, y4], _ =>
    replace h0 : DataW.trod enc Tryd.prog w 0 spare held fu_ 9 [u0] = some y0 := h0
    obtain ⟨nm, q0⟩ := trod_str h0
    cases q0
    replace h1 : DataW.trod enc Tryd.prog w 0 spare held fu_ 3 [u1] = some y1 := h1
    obtain ⟨p, q1, e1_0⟩ := trod_i64 h1
    cases q1
    replace h2 : DataW.trod enc Tryd.prog w 0 spare held fu_ 44 [u2, u3, u4] = some y2 := h2
    obtain ⟨wi_d, wi_b, wi_nm, q2, e2_0⟩ := trod_sp h2
    cases q2
    replace h3 : DataW.trod enc Tryd.prog w 0 spare held fu_ 44 [u5, u6, u7] = some y3 := h3
    obtain ⟨gr_d, gr_b, gr_nm, q3, e3_0⟩ := trod_sp h3
    cases q3
    replace h4 : DataW.trod enc Tryd.prog w 0 spare held fu_ 49 [u8, u9, u10, u11, u12, u13, u14, u15, u16, u17, u18, u19, u20, u21, u22, u23] = some y4 := h4
    obtain ⟨c_k, c_r, c_a, c_n, c_sA, c_sl, c_sc, c_af, c_g, c_b, c_f, c_p, c_re, c_v_a, c_v_b, c_u, c_t, c_w_, q4, e4_0, e4_1, e4_2, e4_3, e4_4, e4_5, e4_6, e4_7, e4_8, e4_9, e4_10, e4_11, e4_12⟩ := trod_cl h4
    cases q4
    exact ⟨nm, p, wi_d, wi_b, wi_nm, gr_d, gr_b, gr_nm, c_k, c_r, c_a, c_n, c_sA, c_sl, c_sc, c_af, c_g, c_b, c_f, c_p, c_re, c_v_a, c_v_b, c_u, c_t, c_w_, rfl, e1_0, e2_0, e3_0, e4_0, e4_1, e4_2, e4_3, e4_4, e4_5, e4_6, e4_7, e4_8, e4_9, e4_10, e4_11, e4_12⟩
def fitCm (w : World) (y : Cm) : Prop := Lst w encCo 2 (fun _ => True) y.A y.c.c.start y.cap ∧ b64 y.c.c.v.1 ∧ b64 y.c.c.v.2
theorem el_cs (h : DataW.trod enc Tryd.prog w 0 spare held fuel 51 cs = some x) : ∃ y : Cm, cs = encCl y ∧ fitCm w y := by
  obtain ⟨nm, p, wi_d, wi_b, wi_nm, gr_d, gr_b, gr_nm, c_k, c_r, c_a, c_n, c_sA, c_sl, c_sc, c_af, c_g, c_b, c_f, c_p, c_re, c_v_a, c_v_b, c_u, c_t, c_w_, rfl, _, _, _, _, _, _, _, f7, _, _, _, _, f12, f13, _, _⟩ := trod_cs h
  exact ⟨⟨⟨nm, p, ⟨wi_d, wi_b, wi_nm⟩, ⟨gr_d, gr_b, gr_nm⟩, ⟨c_k, c_r, c_a, c_n, c_sl, c_af, c_g, c_b, c_f, c_p, c_re, (c_v_a, c_v_b), c_u, c_t, c_w_⟩⟩, c_sA, c_sc⟩, rfl, f7, f12, f13⟩
theorem el_i (h : DataW.trod enc Tryd.prog w 0 spare held fuel 3 cs = some x) : ∃ y : Int, cs = encN y ∧ True := by
  obtain ⟨a, rfl, _⟩ := trod_i64 h
  exact ⟨a, rfl, trivial⟩
theorem el_s (h : DataW.trod enc Tryd.prog w 0 spare held fuel 9 cs = some x) : ∃ y : ByteArray, cs = encS y ∧ True := by
  obtain ⟨a, rfl⟩ := trod_str h
  exact ⟨a, rfl, trivial⟩
theorem cz15 : Tryd.prog.cellsOf 25 = 1 := by kernel_rfl
theorem cz16 : Tryd.prog.cellsOf 27 = 8 := by kernel_rfl
set_option maxRecDepth 100000 in
theorem trod_ca (h : DataW.trod enc Tryd.prog w 0 spare held fuel 27 cs = some x) : ∃ (k0 : Bool) (k1 : Bool) (k2 : Bool) (k3 : Bool) (k4 : Bool) (k5 : Bool) (k6 : Bool) (hA : Option Addr) (hl : List Int) (hc : Nat), cs = [.bool k0, .bool k1, .bool k2, .bool k3, .bool k4, .bool k5, .bool k6, .slice hA hl.length hc] ∧ Lst w (encN) 1 (fun _ => True) hA hl hc := by
  obtain ⟨xs, fu_, _, _, hl, hxl, hf⟩ := DataW.trod_struct Tryd.underlying27 h
  have h0 : DataW.trod enc Tryd.prog w 0 spare held fu_ 24 ((cs.drop 0).take (Tryd.prog.cellsOf 24)) = xs[0]? := hf 0 _ rfl
  rw [cz3] at h0
  have h1 : DataW.trod enc Tryd.prog w 0 spare held fu_ 25 ((cs.drop 7).take (Tryd.prog.cellsOf 25)) = xs[1]? := hf 1 _ rfl
  rw [cz15] at h1
  rw [cz16] at hl
  match cs, hl, xs, hxl with
  | [u0, u1, u2, u3, u4, u5, u6, u7], _, [y0, y1], _ =>
    replace h0 : DataW.trod enc Tryd.prog w 0 spare held fu_ 24 [u0, u1, u2, u3, u4, u5, u6] = some y0 := h0
    obtain ⟨k0, k1, k2, k3, k4, k5, k6, q0⟩ := trod_b7 h0
    cases q0
    replace h1 : DataW.trod enc Tryd.prog w 0 spare held fu_ 25 [u7] = some y1 := h1
    obtain ⟨hA, hl, hc, q1, e1_0⟩ := open_lst (encN) 1 (fun _ => True) (fun _ => rfl) (by omega) Tryd.underlying25 cz1 (fun _ _ _ h => el_i h) h1
    cases q1
    exact ⟨k0, k1, k2, k3, k4, k5, k6, hA, hl, hc, rfl, e1_0⟩
theorem cz17 : Tryd.prog.cellsOf 28 = 1 := by kernel_rfl
theorem cz18 : Tryd.prog.cellsOf 29 = 1 := by kernel_rfl
theorem cz19 : Tryd.prog.cellsOf 30 = 1 := by kernel_rfl
theorem cz20 : Tryd.prog.cellsOf 31 = 1 := by kernel_rfl
theorem cz21 : Tryd.prog.cellsOf 32 = 1 := by kernel_rfl
theorem cz22 : Tryd.prog.cellsOf 34 = 18 := by kernel_rfl
set_option maxRecDepth 100000 in
theorem trod_sy (h : DataW.trod enc Tryd.prog w 0 spare held fuel 34 cs = some x) : ∃ (nm : ByteArray) (f_y : Int) (f_mo : Int) (f_dd : Int) (da : Int) (k_k0 : Bool) (k_k1 : Bool) (k_k2 : Bool) (k_k3 : Bool) (k_k4 : Bool) (k_k5 : Bool) (k_k6 : Bool) (k_hA : Option Addr) (k_hl : List Int) (k_hc : Nat) (pA : Option Addr) (pl : List ByteArray) (pc : Nat) (rA : Option Addr) (rl : List Ro) (rc : Nat) (uA : Option Addr) (ul : List Un) (uc : Nat) (aA : Option Addr) (al : List As) (ac : Nat) (cA : Option Addr) (cl : List Cm) (cc : Nat), cs = [.string nm, .int .i64 f_y, .int .i64 f_mo, .int .i64 f_dd, .int .i64 da, .bool k_k0, .bool k_k1, .bool k_k2, .bool k_k3, .bool k_k4, .bool k_k5, .bool k_k6, .slice k_hA k_hl.length k_hc, .slice pA pl.length pc, .slice rA rl.length rc, .slice uA ul.length uc, .slice aA al.length ac, .slice cA cl.length cc] ∧ b64 f_y ∧ b64 f_mo ∧ b64 f_dd ∧ b64 da ∧ Lst w (encN) 1 (fun _ => True) k_hA k_hl k_hc ∧ Lst w (encS) 1 (fun _ => True) pA pl pc ∧ Lst w (encRo) 2 (fun _ => True) rA rl rc ∧ Lst w (encUn) 5 (fun y => b64 y.f.1 ∧ b64 y.f.2) uA ul uc ∧ Lst w (encAs) 9 (fun y => b64 y.a.lot.1 ∧ b64 y.a.lot.2) aA al ac ∧ Lst w (encCl) 24 (fitCm w) cA cl cc := by
  obtain ⟨xs, fu_, _, _, hl, hxl, hf⟩ := DataW.trod_struct Tryd.underlying34 h
  have h0 : DataW.trod enc Tryd.prog w 0 spare held fu_ 9 ((cs.drop 0).take (Tryd.prog.cellsOf 9)) = xs[0]? := hf 0 _ rfl
  rw [cz2] at h0
  have h1 : DataW.trod enc Tryd.prog w 0 spare held fu_ 23 ((cs.drop 1).take (Tryd.prog.cellsOf 23)) = xs[1]? := hf 1 _ rfl
  rw [cz4] at h1
  have h2 : DataW.trod enc Tryd.prog w 0 spare held fu_ 3 ((cs.drop 4).take (Tryd.prog.cellsOf 3)) = xs[2]? := hf 2 _ rfl
  rw [cz1] at h2
  have h3 : DataW.trod enc Tryd.prog w 0 spare held fu_ 27 ((cs.drop 5).take (Tryd.prog.cellsOf 27)) = xs[3]? := hf 3 _ rfl
  rw [cz16] at h3
  have h4 : DataW.trod enc Tryd.prog w 0 spare held fu_ 28 ((cs.drop 13).take (Tryd.prog.cellsOf 28)) = xs[4]? := hf 4 _ rfl
  rw [cz17] at h4
  have h5 : DataW.trod enc Tryd.prog w 0 spare held fu_ 29 ((cs.drop 14).take (Tryd.prog.cellsOf 29)) = xs[5]? := hf 5 _ rfl
  rw [cz18] at h5
  have h6 : DataW.trod enc Tryd.prog w 0 spare held fu_ 30 ((cs.drop 15).take (Tryd.prog.cellsOf 30)) = xs[6]? := hf 6 _ rfl
  rw [cz19] at h6
  have h7 : DataW.trod enc Tryd.prog w 0 spare held fu_ 31 ((cs.drop 16).take (Tryd.prog.cellsOf 31)) = xs[7]? := hf 7 _ rfl
  rw [cz20] at h7
  have h8 : DataW.trod enc Tryd.prog w 0 spare held fu_ 32 ((cs.drop 17).take (Tryd.prog.cellsOf 32)) = xs[8]? := hf 8 _ rfl
  rw [cz21] at h8
  rw [cz22] at hl
  match cs, hl, xs, hxl with
  | [u0, u1, u2, u3, u4, u5, u6, u7, u8, u9, u10, u11, u12, u13, u14, u15, u16, u17], _, [y0, y1, y2, y3, y4, y5, y6, y7, y8], _ =>
    replace h0 : DataW.trod enc Tryd.prog w 0 spare held fu_ 9 [u0] = some y0 := h0
    obtain ⟨nm, q0⟩ := trod_str h0
    cases q0
    replace h1 : DataW.trod enc Tryd.prog w 0 spare held fu_ 23 [u1, u2, u3] = some y1 := h1
    obtain ⟨f_y, f_mo, f_dd, q1, e1_0, e1_1, e1_2⟩ := trod_ci h1
    cases q1
    replace h2 : DataW.trod enc Tryd.prog w 0 spare held fu_ 3 [u4] = some y2 := h2
    obtain ⟨da, q2, e2_0⟩ := trod_i64 h2
    cases q2
    replace h3 : DataW.trod enc Tryd.prog w 0 spare held fu_ 27 [u5, u6, u7, u8, u9, u10, u11, u12] = some y3 := h3
    obtain ⟨k_k0, k_k1, k_k2, k_k3, k_k4, k_k5, k_k6, k_hA, k_hl, k_hc, q3, e3_0⟩ := trod_ca h3
    cases q3
    replace h4 : DataW.trod enc Tryd.prog w 0 spare held fu_ 28 [u13] = some y4 := h4
    obtain ⟨pA, pl, pc, q4, e4_0⟩ := open_lst (encS) 1 (fun _ => True) (fun _ => rfl) (by omega) Tryd.underlying28 cz2 (fun _ _ _ h => el_s h) h4
    cases q4
    replace h5 : DataW.trod enc Tryd.prog w 0 spare held fu_ 29 [u14] = some y5 := h5
    obtain ⟨rA, rl, rc, q5, e5_0⟩ := open_lst (encRo) 2 (fun _ => True) (fun _ => rfl) (by omega) Tryd.underlying29 cz8 (fun _ _ _ h => el_ro h) h5
    cases q5
    replace h6 : DataW.trod enc Tryd.prog w 0 spare held fu_ 30 [u15] = some y6 := h6
    obtain ⟨uA, ul, uc, q6, e6_0⟩ := open_lst (encUn) 5 (fun y => b64 y.f.1 ∧ b64 y.f.2) (fun _ => rfl) (by omega) Tryd.underlying30 cz9 (fun _ _ _ h => el_un h) h6
    cases q6
    replace h7 : DataW.trod enc Tryd.prog w 0 spare held fu_ 31 [u16] = some y7 := h7
    obtain ⟨aA, al, ac, q7, e7_0⟩ := open_lst (encAs) 9 (fun y => b64 y.a.lot.1 ∧ b64 y.a.lot.2) (fun _ => rfl) (by omega) Tryd.underlying31 cz11 (fun _ _ _ h => el_as h) h7
    cases q7
    replace h8 : DataW.trod enc Tryd.prog w 0 spare held fu_ 32 [u17] = some y8 := h8
    obtain ⟨cA, cl, cc, q8, e8_0⟩ := open_lst (encCl) 24 (fitCm w) (fun _ => rfl) (by omega) Tryd.underlying32 cz14 (fun _ _ _ h => el_cs h) h8
    cases q8
    exact ⟨nm, f_y, f_mo, f_dd, da, k_k0, k_k1, k_k2, k_k3, k_k4, k_k5, k_k6, k_hA, k_hl, k_hc, pA, pl, pc, rA, rl, rc, uA, ul, uc, aA, al, ac, cA, cl, cc, rfl, e1_0, e1_1, e1_2, e2_0, e3_0, e4_0, e5_0, e6_0, e7_0, e8_0⟩
end
set_option maxRecDepth 100000 in
/-- symbols, opened -/
theorem open_sy {H : Type} {enc : TypeId × Value → H} {w : World} {spare : Nat → Bool} {held : Bool} {b0 : Nat} {v : Value} {d : DataW H} {ps : List MemPlace} (hval : Value.okWide Tryd.prog w .any b0 34 v) (hd : DataW.Trod enc Tryd.prog w 0 spare held 34 v d ps) :
    ∃ (s : Sy) (m : Sm), v = .agg (syA s m) ∧ Smw w s m ∧ Nls s m := by
  obtain ⟨cs, rfl, hcs⟩ := okWide_struct Tryd.underlying34 hval
  obtain ⟨fuel, hf⟩ := hd
  simp only [Value.cells] at hf
  obtain ⟨nm, f_y, f_mo, f_dd, da, k_k0, k_k1, k_k2, k_k3, k_k4, k_k5, k_k6, k_hA, k_hl, k_hc, pA, pl, pc, rA, rl, rc, uA, ul, uc, aA, al, ac, cA, cl, cc, e, _, _, _, _, Lh, Lp, Lr, Lu, La, Lc⟩ := trod_sy hf
  obtain ⟨l⟩ := cs
  simp only at e
  subst e
  -- _ _ _ _ Lh Lp Lr Lu La Lc
  refine ⟨⟨nm, f_y, f_mo, f_dd, da, (k_k0, k_k1, k_k2, k_k3, k_k4, k_k5, k_k6), k_hl, pl, rl, ul, al, cl.map (·.c)⟩, ⟨k_hA, k_hc, pA, pc, rA, rc, uA, uc, aA, ac, cA, cc, cl⟩, by simp [syA], ⟨⟨Lh.2.2.2, Lp.2.2.2, Lr.2.2.2, Lu.2.2.2, La.2.2.2, Lc.2.2.2, rfl, fun y hy => (Lc.2.2.1 y hy).1.2.2.2⟩, Lu.1, Lu.2.2.1, La.2.2.1, fun c hc => ?_⟩, ⟨La.2.1, Lc.2.1, Lr.2.1⟩⟩
  obtain ⟨y, hy, rfl⟩ := List.mem_map.1 hc
  exact (Lc.2.2.1 y hy).2
end Go.Proofs.YtcfjehohemdanaaDoor
