/- What find does with each kind of thing: the beginning, a unit, an act type, a clause. -/
import Derived.Test.YtcfjehohemdanaaDoorTc6
import Derived.Test.YtcfjehohemdanaaDoorTb7
import Derived.Test.YtcfjehohemdanaaDoorTb8
import Derived.Test.YtcfjehohemdanaaDoorTb9
import Derived.Test.YtcfjehohemdanaaDoorTc1
import Derived.Test.YtcfjehohemdanaaDoorTc3
namespace Go.Proofs.YtcfjehohemdanaaDoor
open Go.RowKit Go.Sort

theorem seg_of {α : Type} {W : World} {g : Nat} {t : TypeId} {cs : Array Value} {size : Nat} {enc : α → List Value} {xs : List α} (he : ∀ x, (enc x).length = size) (h : Blk W g t cs) (hcs : cs = (xs.flatMap enc).toArray) :
    Seg W W.heap.size size enc (some ⟨g, 0, none⟩) xs := fun k x hx => ⟨g, 0, rfl, h.lt, fun j u hu => by
  have hj : j < size := by rw [← he x]; exact (List.getElem?_eq_some_iff.1 hu).1
  rw [Nat.zero_add, h.cell, hcs, List.getElem?_toArray, getElem?_flatMap he xs k j x hx hj]; exact hu⟩
theorem encCk_len (x : Int × FuncId) : (encCk x).length = 2 := rfl
/-- what find does at things whose checks are known -/
abbrev Fnd (W : World) (bF : Nat) (r : List (Int × Int)) (args : Array Value) : Prop := Calls Tryd.prog 20 args W fun e w' => e = .returned (.tuple #[]) ∧ Below bF W w' ∧ Fl w' bF r
section
variable {s : Sy} {m : Sm} {xs : List (Int × Int)} {B0 bF g : Nat} {t : TypeId} {c : Nat} {W : World}
theorem find_beg (hxl : xs.length ≤ 100000) (hT : Tb W) (hB : Blk W B0 34 (syA s m)) (h0 : B0 < bF) (hF : Fl W bF xs)
    (hG : Blk W g t #[.int .i64 2, .func (.func 22) #[] #[], .int .i64 14, .func (.func 23) #[] #[]]) :
    Fnd W bF (xs ++ flt (eBeg s) (-1)) #[.slice (some ⟨g, 0, none⟩) 2 c, .int .i64 0, .int .i64 (-1), .pointer (some ⟨B0, 0, none⟩), .pointer (some ⟨bF, 0, none⟩)] :=
  find_any s m 0 (-1) [(2, 22), (14, 23)] (fun f => if f = 22 then badBg s else (s.par.isEmpty || s.ro.isEmpty)) _ c xs B0 bF W (by decide) hxl (seg_of encCk_len hG rfl)
    (by intro x hx args W; simp only [List.mem_cons, List.not_mem_nil, or_false] at hx; rcases hx with rfl | rfl <;> rfl)
    (by intro x hx V hV; simp only [List.mem_cons, List.not_mem_nil, or_false] at hx; rcases hx with rfl | rfl; exact badBg_any s m 0 V (hT.below hV); exact nobody_any s m 0 V) hB h0 hF
theorem find_un {k : Nat} {u b : Un} (hxl : xs.length ≤ 100000) (hm : Smb W s m) (hk : s.un[k]? = some u) {n : Nat} (hn : u.base = (n : Int)) (hb : s.un[n]? = some b) (hB : Blk W B0 34 (syA s m)) (h0 : B0 < bF) (hF : Fl W bF xs)
    (hG : Blk W g t #[.int .i64 2, .func (.func 24) #[] #[], .int .i64 11, .func (.func 25) #[] #[]]) :
    Fnd W bF (xs ++ flt (eUn s k u) (-1)) #[.slice (some ⟨g, 0, none⟩) 2 c, .int .i64 k, .int .i64 (-1), .pointer (some ⟨B0, 0, none⟩), .pointer (some ⟨bF, 0, none⟩)] :=
  find_any s m k (-1) [(2, 24), (11, 25)] (fun f => if f = 24 then !(psv u.f) else badUn s k u) _ c xs B0 bF W (by decide) hxl (seg_of encCk_len hG rfl)
    (by intro x hx args W; simp only [List.mem_cons, List.not_mem_nil, or_false] at hx; rcases hx with rfl | rfl <;> rfl)
    (by
      intro x hx V hV
      have hmV := hm.then_ hV
      simp only [List.mem_cons, List.not_mem_nil, or_false] at hx
      rcases hx with rfl | rfl
      · exact badFac_any s m k u V hk (hm.bu u (List.mem_of_getElem? hk)).1 (hm.bu u (List.mem_of_getElem? hk)).2 hmV.y.u
      · exact badUn_any s m k n u b V hk hn hb hm.cu hm.lu hmV.y.u) hB h0 hF
theorem find_ac {k : Nat} {a : As} (hxl : xs.length ≤ 100000) (hm : Smb W s m) (hk : s.ac[k]? = some a) (hB : Blk W B0 34 (syA s m)) (h0 : B0 < bF) (hF : Fl W bF xs)
    (hG : Blk W g t #[.int .i64 2, .func (.func 26) #[] #[], .int .i64 10, .func (.func 27) #[] #[]]) :
    Fnd W bF (xs ++ flt (eAc a.a) a.pos) #[.slice (some ⟨g, 0, none⟩) 2 c, .int .i64 k, .int .i64 a.pos, .pointer (some ⟨B0, 0, none⟩), .pointer (some ⟨bF, 0, none⟩)] :=
  find_any s m k a.pos [(2, 26), (10, 27)] (fun f => if f = 26 then (a.a.unit != -1 && !(psv a.a.lot)) else (a.a.role == -1 && (a.a.kind != 1 || a.a.unit != -1))) _ c xs B0 bF W (by decide) hxl (seg_of encCk_len hG rfl)
    (by intro x hx args W; simp only [List.mem_cons, List.not_mem_nil, or_false] at hx; rcases hx with rfl | rfl <;> rfl)
    (by
      intro x hx V hV
      have hmV := hm.then_ hV
      simp only [List.mem_cons, List.not_mem_nil, or_false] at hx
      rcases hx with rfl | rfl
      · exact badLot_any s m k a V hk (hm.ba a (List.mem_of_getElem? hk)).1 (hm.ba a (List.mem_of_getElem? hk)).2 hmV.y.a
      · exact badNat_any s m k a V hk hmV.y.a) hB h0 hF
theorem find_cl {k : Nat} {x : Cm} (hxl : xs.length ≤ 100000) (hm : Smb W s m) (hk : m.cs[k]? = some x) (hw : fmC s.sz x.c.c = true) (hB : Blk W B0 34 (syA s m)) (h0 : B0 < bF) (hF : Fl W bF xs)
    (hG : Blk W g t #[.int .i64 2, .func (.func 28) #[] #[], .int .i64 3, .func (.func 29) #[] #[], .int .i64 12, .func (.func 30) #[] #[], .int .i64 10, .func (.func 31) #[] #[], .int .i64 11, .func (.func 32) #[] #[]]) :
    Fnd W bF (xs ++ flt (eCl s k x.c) x.c.pos) #[.slice (some ⟨g, 0, none⟩) 5 c, .int .i64 k, .int .i64 x.c.pos, .pointer (some ⟨B0, 0, none⟩), .pointer (some ⟨bF, 0, none⟩)] :=
  find_any s m k x.c.pos [(2, 28), (3, 29), (12, 30), (10, 31), (11, 32)]
    (fun f => if f = 28 then badNu x.c else if f = 29 then decide (8 < x.c.c.start.length) else if f = 30 then (x.c.c.start.any fun y => y.1 == k) else if f = 31 then badKi s x.c else notMo s x.c) _ c xs B0 bF W (by decide) hxl (seg_of encCk_len hG rfl)
    (by intro x hx args W; simp only [List.mem_cons, List.not_mem_nil, or_false] at hx; rcases hx with rfl | rfl | rfl | rfl | rfl <;> rfl)
    (by
      intro y hy V hV
      have hmV := hm.then_ hV
      obtain ⟨q1, q2, q3, q4, q5⟩ := hmV.cl hk
      have hf := hw
      simp only [fmC, Bool.and_eq_true, fm1, fm4, fm5, isIx, decide_eq_true_eq, Bool.or_eq_true, beq_iff_eq, fre] at hf
      simp only [List.mem_cons, List.not_mem_nil, or_false] at hy
      rcases hy with rfl | rfl | rfl | rfl | rfl
      · exact badNu_any s m k x V hk hm.len q4 q5 hmV.y.c
      · exact many_any s m k x V hk hm.len hmV.y.c
      · exact onIt_any s m k x V hk hm.len q3 hmV.y.c q2
      · exact badKi_any s m k x V hk hm.len hf.1.2.1 hf.1.2.2 (by rcases hf.2.2.2.1 with h | h; exact .inl h.1; exact .inr ⟨h.1, h.2⟩) hmV.y.c hmV.y.a
      · have q := hf.2.2.2.2.1
        by_cases hu : x.c.c.unit = -1
        · have h1 := notMo_no s m k x V hk hm.len hmV.y.c hu
          rwa [show notMo s x.c = false by simp [notMo, hu]]
        · have h2 : 0 ≤ x.c.c.unit ∧ x.c.c.unit < s.un.length := by
            rcases q with q | q
            · exact absurd q.1.1 hu
            · exact q.1.2
          obtain ⟨n, hn⟩ := Int.eq_ofNat_of_zero_le h2.1
          have hlt : n < s.un.length := by omega
          have h1 := notMo_yes s m k x n s.un[n] V hk hm.len hmV.y.c hn (List.getElem?_eq_getElem hlt) hmV.y.u
          rwa [show notMo s x.c = (s.un[n].kind != 2) by simp [notMo, hn, hlt]]) hB h0 hF
end
end Go.Proofs.YtcfjehohemdanaaDoor
