/- Symbols in memory; the small tests of typing: isIndex, within, smallTables, increasing. -/
import Derived.Test.YtcfjehohemdanaaDoorTa1
import Derived.Test.YtcfjehohemdanaaDoorD06
import Derived.Test.YtcfjehohemdanaaDoorR04
import Derived.Test.YtcfjehohemdanaaDoorOwn2
import Derived.Deep.Cut
namespace Go.Proofs.YtcfjehohemdanaaDoor
open Go.RowKit Go.Sort

def encN (n : Int) : List Value := [.int .i64 n]
def encS (s : ByteArray) : List Value := [.string s]
def encRo (r : Ro) : List Value := [.string r.nm, .int .i64 r.party]
def encUn (u : Un) : List Value := [.string u.nm, .int .i64 u.kind, .int .i64 u.base, .int .i64 u.f.1, .int .i64 u.f.2]
def encAs (a : As) : List Value := [.string a.nm, .int .i64 a.pos, .int .i64 a.a.kind, .int .i64 a.a.role, .int .i64 a.a.give, .int .i64 a.a.to_, .int .i64 a.a.unit, .int .i64 a.a.lot.1, .int .i64 a.a.lot.2]
def encCo (x : Int × Int) : List Value := [.int .i64 x.1, .int .i64 x.2]
/-- a clause and where its conditions lie -/
structure Cm where
  c : Cs
  A : Option Addr
  cap : Nat
def encCl (x : Cm) : List Value := [.string x.c.nm, .int .i64 x.c.pos, .int .i64 x.c.wi.d, .bool x.c.wi.b, .string x.c.wi.nm, .int .i64 x.c.gr.d, .bool x.c.gr.b, .string x.c.gr.nm,
  .int .i64 x.c.c.kind, .int .i64 x.c.c.role, .int .i64 x.c.c.act, .int .i64 x.c.c.need, .slice x.A x.c.c.start.length x.cap, .int .i64 x.c.c.aft, .int .i64 x.c.c.grace, .bool x.c.c.bus, .bool x.c.c.fin, .int .i64 x.c.c.pause, .int .i64 x.c.c.resume, .int .i64 x.c.c.v.1, .int .i64 x.c.c.v.2, .int .i64 x.c.c.unit, .int .i64 x.c.c.to_, .bool x.c.c.waived]
structure Sm where
  h : Option Addr
  hc : Nat
  p : Option Addr
  pc : Nat
  r : Option Addr
  rc : Nat
  u : Option Addr
  uc : Nat
  a : Option Addr
  ac : Nat
  c : Option Addr
  cc : Nat
  cs : List Cm
abbrev syA (s : Sy) (m : Sm) : Array Value := #[.string s.nm, .int .i64 s.y, .int .i64 s.mo, .int .i64 s.dd, .int .i64 s.days, .bool s.wk.1, .bool s.wk.2.1, .bool s.wk.2.2.1, .bool s.wk.2.2.2.1, .bool s.wk.2.2.2.2.1, .bool s.wk.2.2.2.2.2.1, .bool s.wk.2.2.2.2.2.2,
  .slice m.h s.hol.length m.hc, .slice m.p s.par.length m.pc, .slice m.r s.ro.length m.rc, .slice m.u s.un.length m.uc, .slice m.a s.ac.length m.ac, .slice m.c s.cl.length m.cc]
structure Sym (w : World) (s : Sy) (m : Sm) : Prop where
  h : Seg w w.heap.size 1 encN m.h s.hol
  p : Seg w w.heap.size 1 encS m.p s.par
  r : Seg w w.heap.size 2 encRo m.r s.ro
  u : Seg w w.heap.size 5 encUn m.u s.un
  a : Seg w w.heap.size 9 encAs m.a s.ac
  c : Seg w w.heap.size 24 encCl m.c m.cs
  e : m.cs.map (·.c) = s.cl
  t : ∀ x ∈ m.cs, Seg w w.heap.size 2 encCo x.A x.c.c.start
theorem Sym.then_ {w w' : World} {s : Sy} {m : Sm} (h : Sym w s m) (hb : Below w.heap.size w w') : Sym w' s m :=
  ⟨(h.h.below hb).more hb.size, (h.p.below hb).more hb.size, (h.r.below hb).more hb.size, (h.u.below hb).more hb.size, (h.a.below hb).more hb.size, (h.c.below hb).more hb.size, h.e, fun x hx => ((h.t x hx).below hb).more hb.size⟩
theorem segI {w : World} {B : Nat} {A : Option Addr} {l : List Int} {k : Nat} {x : Int} (h : Seg w B 1 encN A l) (hx : l[k]? = some x) :
    ∃ b off, A = some ⟨b, off, none⟩ ∧ b < B ∧ w.cell? ⟨b, off + k, none⟩ = some (.int .i64 x) := by
  obtain ⟨b, off, e, hb, hc⟩ := h k x hx
  exact ⟨b, off, e, hb, by simpa using hc 0 _ rfl⟩
theorem isIx_any (i : Int) (n : Nat) (w : World) : Calls Tryd.prog 38 #[.int .i64 i, .int .i64 n] w fun e w' => e = .returned (.bool (isIx i n)) ∧ w' = w := by
  go_enter Tryd.func38, Tryd.ntmps38
  go_wp2
  all_goals go_ret
  all_goals exact ⟨ret_bool (by first | (simp_all [isIx]; done) | (simp_all [isIx]; omega)), rfl⟩
theorem inn_any (n a b : Int) (w : World) : Calls Tryd.prog 42 #[.int .i64 n, .int .i64 a, .int .i64 b] w fun e w' => e = .returned (.bool (inn n a b)) ∧ w' = w := by
  go_enter Tryd.func42, Tryd.ntmps42
  go_wp2
  all_goals go_ret
  all_goals exact ⟨ret_bool (by first | (simp_all [inn]; done) | (simp_all [inn]; omega)), rfl⟩
set_option maxRecDepth 100000 in
set_option maxHeartbeats 1600000 in
theorem smallT_any (s : Sy) (m : Sm) (w : World) : Calls Tryd.prog 36 #[.agg (syA s m)] w fun e w' => e = .returned (.bool (smallT s)) ∧ Below w.heap.size w w' := by
  go_enter Tryd.func36, Tryd.ntmps36
  go_wp2
  all_goals go_ret
  all_goals exact ⟨ret_bool (by first | (symm; rw [Bool.eq_false_iff]; simp only [smallT, ne_eq, Bool.and_eq_true, decide_eq_true_eq]; omega) | (rw [Bool.eq_iff_iff]; simp only [smallT, Bool.and_eq_true, decide_eq_true_eq]; omega)), wa1 _ _⟩
def lstI (l : List Int) (last : Int) : Int := match l with
  | [] => last
  | a :: l => lstI l a
theorem lstI_app (l : List Int) (x last : Int) : lstI (l ++ [x]) last = x := by
  induction l generalizing last with
  | nil => rfl
  | cons a l ih => exact ih a
theorem incr_app (l : List Int) (x last : Int) : incr (l ++ [x]) last = (incr l last && !(decide (x ≤ lstI l last) || decide (73048 < x))) := by
  induction l generalizing last with
  | nil => simp [incr, lstI]; rfl
  | cons a l ih =>
    simp only [List.cons_append, incr, ih, lstI, Bool.and_assoc]; rfl
theorem incr_no (l m : List Int) (last : Int) (h : incr l last = false) : incr (l ++ m) last = false := by
  induction l generalizing last with
  | nil => simp [incr] at h
  | cons a l ih =>
    simp only [List.cons_append, incr, Bool.and_eq_false_iff] at h ⊢
    rcases h with h | h
    · exact .inl h
    · exact .inr (ih _ h)
set_option maxRecDepth 100000 in
theorem incr_any (A : Option Addr) (l : List Int) (c : Nat) (w : World) (hl : l.length ≤ 1000000) (hs : Seg w w.heap.size 1 encN A l) : Calls Tryd.prog 37 #[.slice A l.length c] w fun e w' => e = .returned (.bool (incr l (-1))) ∧ Below w.heap.size w w' := by
  have HS := Lib.hid hs
  clear hs
  go_enter Tryd.func37, Tryd.ntmps37
  go_upto_region 3 with (fail)
  go_loopw [3, 8] (fun v x WR => ∃ k : Nat, k ≤ l.length ∧ x = .int .i64 k ∧ v = .int .i64 (lstI (l.take k) (-1)) ∧ Hid (incr (l.take k) (-1) = true) ∧ Below w.heap.size w WR) (fun _ x _ => 2000000 - (intOf x).toNat)
  case atStart => exact ⟨0, by omega, rfl, rfl, rfl, Below.refl _ _⟩
  case round =>
    obtain ⟨k, hk, rfl, rfl, hT, hbr⟩ := hrel
    have HBR := Lib.hid hbr
    by_cases hlt : k < l.length
    · obtain ⟨x, hx⟩ : ∃ x, l[k]? = some x := ⟨_, List.getElem?_eq_getElem hlt⟩
      obtain ⟨b1, o1, ea, hb1, x0⟩ := segI (HS.out.below hbr) hx
      subst ea
      have hbl1 : b1 < wr.heap.size := Nat.lt_of_lt_of_le hb1 hbr.size
      have htk : l.take (k + 1) = l.take k ++ [x] := by
        obtain ⟨h1, rfl⟩ := List.getElem?_eq_some_iff.1 hx
        exact List.take_succ_eq_append_getElem h1
      have hin := incr_app (l.take k) x (-1)
      rw [← htk, hT.out, Bool.true_and] at hin
      obtain ⟨z, hz'⟩ : ∃ z, lstI (l.take k) (-1) = z := ⟨_, rfl⟩
      rw [hz'] at hin ⊢
      have HIN := Lib.hid hin
      have HTK := Lib.hid htk
      clear hx hin htk hbr hz'
      by_cases h1 : x ≤ z ∨ 73048 < x
      · have hf : Hid (incr l (-1) = false) := by
          have h2 : incr (l.take (k + 1)) (-1) = false := by rw [HIN.out]; simp; intro h; rcases h1 with h | h <;> omega
          have h3 := incr_no _ (l.drop (k + 1)) _ h2
          rwa [List.take_append_drop] at h3
        rcases h1 with h1 | h1
        · have h1' : decide (x ≤ z) = true := decide_eq_true h1
          go_wp2
          go_ret
          exact ⟨ret_bool hf.out.symm, HBR.out⟩
        · by_cases h0 : x ≤ z
          · have h1' : decide (x ≤ z) = true := decide_eq_true h0
            go_wp2
            go_ret
            exact ⟨ret_bool hf.out.symm, HBR.out⟩
          · have h0' : decide (x ≤ z) = false := decide_eq_false h0
            have h1' : decide (73048 < x) = true := decide_eq_true h1
            go_wp2
            go_ret
            exact ⟨ret_bool hf.out.symm, HBR.out⟩
      · have h0' : decide (x ≤ z) = false := decide_eq_false fun h => h1 (.inl h)
        have h1' : decide (73048 < x) = false := decide_eq_false fun h => h1 (.inr h)
        have h2 : Hid (incr (l.take (k + 1)) (-1) = true) := by unfold Hid; rw [HIN.out, h0', h1']; rfl
        clear h1
        go_wp2
        go_roundw
        case rel => exact ⟨k + 1, by omega, by go_num, by rw [HTK.out, lstI_app], h2, HBR.out⟩
        case measure => simp [intOf]; omega
    · have hT2 := hT.out
      rw [List.take_of_length_le (by omega)] at hT2
      have HT2 := Lib.hid hT2
      clear hT2
      go_wp2
      go_ret
      exact ⟨ret_bool HT2.out.symm, HBR.out⟩
end Go.Proofs.YtcfjehohemdanaaDoor
