/- A ratio and the law's Raw as arguments, opened. -/
import Derived.Test.YtbkekabhdpoddaaDoorRe2
namespace Go.Proofs.YtbkekabhdpoddaaDoor
open Go.ChangeShapes Go.WideShapes Go.ChangeAt Go.RowKit

def b64 (n : Int) : Prop := -9223372036854775808 ≤ n ∧ n ≤ 9223372036854775807
section
variable {H : Type} {enc : TypeId × Value → H} {w : World} {spare : Nat → Bool} {held : Bool} {fuel : Nat} {cs : List Value} {x : DataW H × List MemPlace}
theorem trod_i64 (h : DataW.trod enc Tryd.prog w 0 spare held fuel 3 cs = some x) : ∃ n : Int, cs = [.int .i64 n] ∧ b64 n := by
  obtain ⟨n, h1, _, h3⟩ := DataW.trod_int Tryd.underlying3 h
  exact ⟨n, h1, bounds_i64 h3⟩
theorem trod_bo (h : DataW.trod enc Tryd.prog w 0 spare held fuel 4 cs = some x) : ∃ b : Bool, cs = [.bool b] := by
  obtain ⟨b, e1, _⟩ := DataW.trod_bool Tryd.underlying4 h
  exact ⟨b, e1⟩
theorem trod_str (h : DataW.trod enc Tryd.prog w 0 spare held fuel 9 cs = some x) : ∃ s : ByteArray, cs = [.string s] := by
  obtain ⟨s, e1, _⟩ := DataW.trod_string Tryd.underlying9 h
  exact ⟨s, e1⟩
theorem cz0 : Tryd.prog.cellsOf 3 = 1 := by kernel_rfl
theorem cz1 : Tryd.prog.cellsOf 9 = 1 := by kernel_rfl
theorem cz2 : Tryd.prog.cellsOf 25 = 2 := by kernel_rfl
set_option maxRecDepth 100000 in
theorem trod_ra (h : DataW.trod enc Tryd.prog w 0 spare held fuel 25 cs = some x) : ∃ (a : Int) (b : Int), cs = [.int .i64 a, .int .i64 b] ∧ b64 a ∧ b64 b := by
  obtain ⟨xs, fu_, _, _, hl, hxl, hf⟩ := DataW.trod_struct Tryd.underlying25 h
  have h0 : DataW.trod enc Tryd.prog w 0 spare held fu_ 3 ((cs.drop 0).take (Tryd.prog.cellsOf 3)) = xs[0]? := hf 0 _ rfl
  rw [cz0] at h0
  have h1 : DataW.trod enc Tryd.prog w 0 spare held fu_ 3 ((cs.drop 1).take (Tryd.prog.cellsOf 3)) = xs[1]? := hf 1 _ rfl
  rw [cz0] at h1
  rw [cz2] at hl
  match cs, hl, xs, hxl with
  | [u0, u1], _, [y0, y1], _ =>
    replace h0 : DataW.trod enc Tryd.prog w 0 spare held fu_ 3 [u0] = some y0 := h0
    obtain ⟨a, q0, e0_0⟩ := trod_i64 h0
    cases q0
    replace h1 : DataW.trod enc Tryd.prog w 0 spare held fu_ 3 [u1] = some y1 := h1
    obtain ⟨b, q1, e1_0⟩ := trod_i64 h1
    cases q1
    exact ⟨a, b, rfl, e0_0, e1_0⟩
theorem cz3 : Tryd.prog.cellsOf 45 = 4 := by kernel_rfl
set_option maxRecDepth 100000 in
theorem trod_raw (h : DataW.trod enc Tryd.prog w 0 spare held fuel 45 cs = some x) : ∃ (n : Int) (d : Int) (p : Int) (s : ByteArray), cs = [.int .i64 n, .int .i64 d, .int .i64 p, .string s] ∧ b64 n ∧ b64 d ∧ b64 p := by
  obtain ⟨xs, fu_, _, _, hl, hxl, hf⟩ := DataW.trod_struct Tryd.underlying45 h
  have h0 : DataW.trod enc Tryd.prog w 0 spare held fu_ 3 ((cs.drop 0).take (Tryd.prog.cellsOf 3)) = xs[0]? := hf 0 _ rfl
  rw [cz0] at h0
  have h1 : DataW.trod enc Tryd.prog w 0 spare held fu_ 3 ((cs.drop 1).take (Tryd.prog.cellsOf 3)) = xs[1]? := hf 1 _ rfl
  rw [cz0] at h1
  have h2 : DataW.trod enc Tryd.prog w 0 spare held fu_ 3 ((cs.drop 2).take (Tryd.prog.cellsOf 3)) = xs[2]? := hf 2 _ rfl
  rw [cz0] at h2
  have h3 : DataW.trod enc Tryd.prog w 0 spare held fu_ 9 ((cs.drop 3).take (Tryd.prog.cellsOf 9)) = xs[3]? := hf 3 _ rfl
  rw [cz1] at h3
  rw [cz3] at hl
  match cs, hl, xs, hxl with
  | [u0, u1, u2, u3], _, [y0, y1, y2, y3], _ =>
    replace h0 : DataW.trod enc Tryd.prog w 0 spare held fu_ 3 [u0] = some y0 := h0
    obtain ⟨n, q0, e0_0⟩ := trod_i64 h0
    cases q0
    replace h1 : DataW.trod enc Tryd.prog w 0 spare held fu_ 3 [u1] = some y1 := h1
    obtain ⟨d, q1, e1_0⟩ := trod_i64 h1
    cases q1
    replace h2 : DataW.trod enc Tryd.prog w 0 spare held fu_ 3 [u2] = some y2 := h2
    obtain ⟨p, q2, e2_0⟩ := trod_i64 h2
    cases q2
    replace h3 : DataW.trod enc Tryd.prog w 0 spare held fu_ 9 [u3] = some y3 := h3
    obtain ⟨s, q3⟩ := trod_str h3
    cases q3
    exact ⟨n, d, p, s, rfl, e0_0, e1_0, e2_0⟩
end
set_option maxRecDepth 100000 in
theorem open_ra {H : Type} {enc : TypeId × Value → H} {w : World} {spare : Nat → Bool} {held : Bool} {b0 : Nat} {v : Value} {d0 : DataW H} {ps : List MemPlace} (hval : Value.okWide Tryd.prog w .any b0 25 v) (hd : DataW.Trod enc Tryd.prog w 0 spare held 25 v d0 ps) : ∃ a b : Int, v = .agg #[.int .i64 a, .int .i64 b] ∧ b64 a ∧ b64 b := by
  obtain ⟨cs, rfl, hcs⟩ := okWide_struct Tryd.underlying25 hval
  obtain ⟨fuel, hf⟩ := hd
  simp only [Value.cells] at hf
  obtain ⟨a, b, e, hb⟩ := trod_ra hf
  obtain ⟨l⟩ := cs
  simp only at e
  subst e
  exact ⟨a, b, rfl, hb⟩
set_option maxRecDepth 100000 in
theorem open_raw {H : Type} {enc : TypeId × Value → H} {w : World} {spare : Nat → Bool} {held : Bool} {b0 : Nat} {v : Value} {d0 : DataW H} {ps : List MemPlace} (hval : Value.okWide Tryd.prog w .any b0 45 v) (hd : DataW.Trod enc Tryd.prog w 0 spare held 45 v d0 ps) : ∃ n d p : Int, ∃ s : ByteArray, v = .agg #[.int .i64 n, .int .i64 d, .int .i64 p, .string s] ∧ b64 n ∧ b64 d ∧ b64 p := by
  obtain ⟨cs, rfl, hcs⟩ := okWide_struct Tryd.underlying45 hval
  obtain ⟨fuel, hf⟩ := hd
  simp only [Value.cells] at hf
  obtain ⟨n, d, p, s, e, hb⟩ := trod_raw hf
  obtain ⟨l⟩ := cs
  simp only at e
  subst e
  exact ⟨n, d, p, s, rfl, hb⟩
end Go.Proofs.YtbkekabhdpoddaaDoor
