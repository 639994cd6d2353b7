/- The walk of the closure that adds what a party owes (cascade.owed$2). -/
import Derived.Test.YteoicnhnpailiaaCb2
import Derived.Laws.Rows
namespace Go.Proofs.Yteoicnhnpailiaa
open Go.RowKit Go.Sort

theorem ex12 {S : List Bool} (h : S.length = 12) : ∃ z0 z1 z2 z3 z4 z5 z6 z7 z8 z9 z10 z11, S = [z0, z1, z2, z3, z4, z5, z6, z7, z8, z9, z10, z11] := by
  match S, h with
  | [z0, z1, z2, z3, z4, z5, z6, z7, z8, z9, z10, z11], _ => exact ⟨z0, z1, z2, z3, z4, z5, z6, z7, z8, z9, z10, z11, rfl⟩
theorem cells12 {X : World} {g : Nat} {t : TypeId} {z0 z1 z2 z3 z4 z5 z6 z7 z8 z9 z10 z11 : Bool} (h : Blk X g t (setA [z0, z1, z2, z3, z4, z5, z6, z7, z8, z9, z10, z11])) : X.cell? ⟨g, 0, none⟩ = some (.bool z0) ∧ X.cell? ⟨g, 1, none⟩ = some (.bool z1) ∧ X.cell? ⟨g, 2, none⟩ = some (.bool z2) ∧ X.cell? ⟨g, 3, none⟩ = some (.bool z3) ∧ X.cell? ⟨g, 4, none⟩ = some (.bool z4) ∧ X.cell? ⟨g, 5, none⟩ = some (.bool z5) ∧ X.cell? ⟨g, 6, none⟩ = some (.bool z6) ∧ X.cell? ⟨g, 7, none⟩ = some (.bool z7) ∧ X.cell? ⟨g, 8, none⟩ = some (.bool z8) ∧ X.cell? ⟨g, 9, none⟩ = some (.bool z9) ∧ X.cell? ⟨g, 10, none⟩ = some (.bool z10) ∧ X.cell? ⟨g, 11, none⟩ = some (.bool z11) :=
  ⟨h.cell 0, h.cell 1, h.cell 2, h.cell 3, h.cell 4, h.cell 5, h.cell 6, h.cell 7, h.cell 8, h.cell 9, h.cell 10, h.cell 11⟩
/-- a list of debts as an element of a list of lists -/
structure Dl where
  l : List Db
  A : Option Addr
  c : Nat
def encL (x : Dl) : List Value := [.slice x.A x.l.length x.c]
theorem encL_len (x : Dl) : (encL x).length = 1 := rfl
theorem encL_one (x : Dl) : ∀ u ∈ encL x, u.oneCell' = true := by
  intro u hu
  simp [encL] at hu
  subst hu; rfl
theorem segL {w : World} {B : Nat} {A : Option Addr} {l : List Dl} {k : Nat} {x : Dl} (h : Seg w B 1 encL A l) (hx : l[k]? = some x) :
    ∃ b off, A = some ⟨b, off, none⟩ ∧ b < B ∧ w.cell? ⟨b, off + k, none⟩ = some (.slice x.A x.l.length x.c) := by
  obtain ⟨b, off, e, hb, hc⟩ := h k x hx
  exact ⟨b, off, e, hb, by simpa using hc 0 _ rfl⟩
theorem own_made (w : World) {B : Nat} (hB : B ≤ w.heap.size) (T : TypeId) (x : Dl) : Own (w.alloc (.cells #[.slice x.A x.l.length x.c] T)) B T 1 encL (.slice (some ⟨w.heap.size, 0, none⟩) 1 1) [x] :=
  ⟨by simp [encL], .inr ⟨w.heap.size, 1, #[.slice x.A x.l.length x.c], rfl, hB, heap_alloc_new _ _, by simp, by decide, by simp, by simp [encL]⟩⟩
theorem sel_t {i tt : Int} {d : Db} (h : sel i tt d = true) : d.f = i ∧ (tt < 0 ∨ d.t = tt) := by simpa [sel] using h
theorem ams_take {l : List Db} {k : Nat} {x : Db} (hx : l[k]? = some x) (i tt : Int) : ams (l.take (k + 1)) i tt = ams (l.take k) i tt ++ if sel i tt x then [qOf x] else [] := by
  obtain ⟨hk, rfl⟩ := List.getElem?_eq_some_iff.1 hx
  rw [List.take_succ_eq_append_getElem hk, ams, List.filter_append, List.map_append]
  cases h : sel i tt l[k] <;> simp [ams, h]
/-- the amounts of the first lists -/
def amD (ls : List Dl) (i tt : Int) : List Rat := ls.flatMap fun x => ams x.l i tt
theorem amD_take {ls : List Dl} {k : Nat} {x : Dl} (hx : ls[k]? = some x) (i tt : Int) : amD (ls.take (k + 1)) i tt = amD (ls.take k) i tt ++ ams x.l i tt := by
  obtain ⟨hk, rfl⟩ := List.getElem?_eq_some_iff.1 hx
  rw [List.take_succ_eq_append_getElem hk, amD, List.flatMap_append]; simp [amD]
theorem sumE_one (s : Option Rat) (q : Rat) : sumE s [q] = addE s q := rfl
set_option maxRecDepth 100000 in
set_option maxHeartbeats 3200000 in
theorem each_any (p : Pf) (m : Ms) (S : List Bool) (i tt : Int) (s : Option Rat) (bP bS bF bE bT : Nat) (w0 w : World) (hv : VP p) (hm : Pm w0 p m) (hS : S.length = 12) (h0 : Below w0.heap.size w0 w)
    (gP : Blk w bP 27 (pfA p m)) (gS : Blk w bS 66 (setA S)) (gF : Blk w bF 90 #[.func (.func 50) #[] #[.pointer (some ⟨bE, 0, none⟩), .pointer (some ⟨bT, 0, none⟩)]])
    (hs : St w bE bT s) (hne : bE ≠ bT) (n1 : bP ≠ bE ∧ bP ≠ bT) (n2 : bS ≠ bE ∧ bS ≠ bT) (n3 : bF ≠ bE ∧ bF ≠ bT) (n4 : w0.heap.size ≤ bE ∧ w0.heap.size ≤ bT) :
    Calls Try.prog 51 #[.int .i64 i, .int .i64 tt, .pointer (some ⟨bP, 0, none⟩), .pointer (some ⟨bS, 0, none⟩), .pointer (some ⟨bF, 0, none⟩)] w fun e w' => e = .returned (.tuple #[]) ∧ St w' bE bT (sumE s (eachL p S i tt)) ∧ Kp bE bT w w' := by
  obtain ⟨z0, z1, z2, z3, z4, z5, z6, z7, z8, z9, z10, z11, rfl⟩ := ex12 hS
  have HV := Lib.hid hv
  have HM := Lib.hid hm
  have H0 := Lib.hid h0
  have GP := Lib.hid gP
  have GS := Lib.hid gS
  have GF := Lib.hid gF
  have HS := Lib.hid hs
  have HS' := Lib.hid hS
  have N4 := Lib.hid n4
  clear hv hm h0 gP gS gF hs
  have lP := GP.out.lt
  obtain ⟨ri, hi, hz0, hz1, hz2⟩ := info_parts (show (Try.prog.info? 23).map (fun i => (i.zero, i.size, i.bytes)) = some (some (.slice none 0 0), 1, 24) by kernel_rfl)
  have HE : Hid (eachL p [z0, z1, z2, z3, z4, z5, z6, z7, z8, z9, z10, z11] i tt = amD (if lat p [z0, z1, z2, z3, z4, z5, z6, z7, z8, z9, z10, z11] i then [⟨p.du, m.a2, m.c2⟩, ⟨p.la, m.a3, m.c3⟩] else [⟨p.du, m.a2, m.c2⟩]) i tt) := by
    rw [Hid]; unfold eachL amD
    cases lat p [z0, z1, z2, z3, z4, z5, z6, z7, z8, z9, z10, z11] i <;> simp
  obtain ⟨_, _, c2, c3, _, _⟩ := pfCells GP.out
  go_enter Try.func51, Try.ntmps51
  go_upto_region 1 with (fail)
  refine name_wp ?_
  intro X hX
  have hbX : Below w.heap.size w X := by rw [hX]; exact wa1 _ _
  have O1 := Lib.hid (show Own X w.heap.size 23 1 encL (.slice (some ⟨w.heap.size, 0, none⟩) 1 1) [⟨p.du, m.a2, m.c2⟩] by rw [hX]; exact own_made w (Nat.le_refl _) _ ⟨p.du, m.a2, m.c2⟩)
  have HBX := Lib.hid hbX
  have GPX := Lib.hid (GP.out.then_ hbX)
  obtain ⟨qz0, qz1, qz2, qz3, qz4, qz5, qz6, qz7, qz8, qz9, qz10, qz11⟩ := cells12 (GS.out.then_ hbX)
  obtain ⟨k0, k1, k2, k3, k4, k5⟩ := pfCells GPX.out
  have HL : Hid (Calls Try.prog 52 #[.agg (pfA p m), .int .i64 i, .agg #[.bool z0, .bool z1, .bool z2, .bool z3, .bool z4, .bool z5, .bool z6, .bool z7, .bool z8, .bool z9, .bool z10, .bool z11]] X fun e w' => e = .returned (.bool (lat p [z0, z1, z2, z3, z4, z5, z6, z7, z8, z9, z10, z11] i)) ∧ Below X.heap.size X w') := late_any p m i [z0, z1, z2, z3, z4, z5, z6, z7, z8, z9, z10, z11] HS'.out X HV.out (HM.out.then_ (below_then H0.out hbX))
  have la : ∀ x ∈ ([⟨p.du, m.a2, m.c2⟩, ⟨p.la, m.a3, m.c3⟩] : List Dl), Seg w0 w0.heap.size 4 encD x.A x.l ∧ x.l.length ≤ 400 ∧ ∀ d ∈ x.l, okD p.n d = true := by
    intro x hx
    simp at hx
    rcases hx with rfl | rfl
    · exact ⟨HM.out.s2, HV.out.ldu, HV.out.du⟩
    · exact ⟨HM.out.s3, HV.out.lla, HV.out.la⟩
  have LA := Lib.hid la
  clear hX hbX la
  obtain ⟨ls, hls⟩ : ∃ ls : List Dl, ls = if lat p [z0, z1, z2, z3, z4, z5, z6, z7, z8, z9, z10, z11] i then [⟨p.du, m.a2, m.c2⟩, ⟨p.la, m.a3, m.c3⟩] else [⟨p.du, m.a2, m.c2⟩] := ⟨_, rfl⟩
  rw [← hls] at HE
  rcases hbb (lat p [z0, z1, z2, z3, z4, z5, z6, z7, z8, z9, z10, z11] i) with hl | hl
  case' inl =>
    rw [hl, if_pos rfl] at hls
    have LL : Hid (∀ x ∈ ls, Seg w0 w0.heap.size 4 encD x.A x.l ∧ x.l.length ≤ 400 ∧ ∀ d ∈ x.l, okD p.n d = true) := by rw [hls]; exact LA.out
    have ln : ls.length ≤ 2 := by rw [hls]; simp
    have l0 : 0 < ls.length := by rw [hls]; simp
    rw [hl] at HL
    have HLS := Lib.hid hls
    clear hl hls LA
    go_upto_region 2 with (go_at_call 52; with_reducible refine HL.out.mono ?_; rintro e v2 ⟨rfl, hk⟩)
    have O2 := Lib.hid (O1.out.below hk)
    obtain ⟨_, _, _, c3', _, _⟩ := pfCells (GPX.out.then_ hk)
    have lP' : bP < v2.heap.size := (GPX.out.then_ hk).lt
    have HB2 := Lib.hid (below_then HBX.out hk)
    have hw2 : w.heap.size ≤ v2.heap.size := HB2.out.size
    clear HL O1 HBX k0 k1 k2 k3 k4 k5 qz0 qz1 qz2 qz3 qz4 qz5 qz6 qz7 qz8 qz9 qz10 qz11
    go_upto_region 3 with (at_builtin; go_loud (refine wpList_app _ rfl (.tmp 19) (.tmp 22) _ rfl w.heap.size 23 ri _ 1 24 Try.underlying91 hi hz0 hz1 hz2 rfl (by omega) (by omega) encL encL_len encL_one _ [⟨p.du, m.a2, m.c2⟩] rfl (O2.out.alloc _) (by simp) v2.heap.size 1 ⟨p.la, m.a3, m.c3⟩ rfl (Blk.new _ _ _) (by simp; omega) ?_); intro v V hO hb4 _)
    replace hO : Own V w.heap.size 23 1 encL v ls := by rw [HLS.out]; exact hO
    have HVB := Lib.hid ((below_alloc HB2.out _).trans hb4)
    clear c3' lP' HB2 hw2 hb4 O2 HLS c2 c3 lP
  case' inr =>
    rw [hl] at hls
    simp only [Bool.false_eq_true, if_false] at hls
    have LL : Hid (∀ x ∈ ls, Seg w0 w0.heap.size 4 encD x.A x.l ∧ x.l.length ≤ 400 ∧ ∀ d ∈ x.l, okD p.n d = true) := by
      rw [hls, Hid]
      intro x hx
      refine LA.out x ?_
      simp at hx ⊢
      exact .inl hx
    have ln : ls.length ≤ 2 := by rw [hls]; simp
    have l0 : 0 < ls.length := by rw [hls]; simp
    rw [hl] at HL
    have HLS := Lib.hid hls
    clear hl hls LA
    go_upto_region 3 with (go_at_call 52; with_reducible refine HL.out.mono ?_; rintro e V ⟨rfl, hk⟩)
    have hO := O1.out.below hk
    rw [← HLS.out] at hO
    obtain ⟨v, hv⟩ : ∃ v, Value.slice (some ⟨w.heap.size, 0, none⟩) 1 1 = v := ⟨_, rfl⟩
    rw [hv] at hO ⊢
    have HVB := Lib.hid (below_then HBX.out hk)
    clear hk HL O1 HBX k0 k1 k2 k3 k4 k5 qz0 qz1 qz2 qz3 qz4 qz5 qz6 qz7 qz8 qz9 qz10 qz11 hv HLS c2 c3 lP
  all_goals (
    have e1 := lenV_own hO
    obtain ⟨A, cc, rfl, hcc, _⟩ := hO.seg encL_len
    have HO := Lib.hid hO
    have HSV := Lib.hid (HS.out.then_ HVB.out)
    have HVX := HVB
    have lE : bE < w.heap.size := HS.out.e.lt
    have lT : bT < w.heap.size := HS.out.t.lt
    have hon : ∀ k, (Value.slice A ls.length cc).ownBlock = some k → k ≠ bE ∧ k ≠ bT := fun k hk => by
      have := (World.ownsRow.lt hO k hk).1
      omega
    have HON := Lib.hid hon
    have GFV := Lib.hid (GF.out.then_ HVB.out)
    have HB0 := Lib.hid (below_then H0.out HVB.out)
    have lz := HB0.out.size
    clear hO hon e1 GP GPX GS GF HS HM H0 hi hz0 hz1 hz2 lE lT
    go_upto_region 4 with (fail)
    go_loopw [26] (fun x wr => ∃ k : Nat, k ≤ ls.length ∧ x = .int .i64 k ∧ St wr bE bT (sumE s (amD (ls.take k) i tt)) ∧ Kp bE bT V wr) (fun x _ => ls.length - (intOf x).toNat)
    case atStart => exact ⟨0, by omega, rfl, by simpa [amD, sumE] using HSV.out, Kp.refl _ _ _⟩
    case round =>
      obtain ⟨k, hk, rfl, hst, hkp⟩ := hrel
      have HST := Lib.hid hst
      have HKP := Lib.hid hkp
      by_cases hlt : k < ls.length
      · obtain ⟨x, hx⟩ : ∃ x, ls[k]? = some x := ⟨_, List.getElem?_eq_getElem hlt⟩
        obtain ⟨A', cc', ea, _, hsg⟩ := (hkp.own HO.out HON.out).seg encL_len
        obtain rfl : A = A' := by injection ea
        obtain ⟨b, off, rfl, hb, cl⟩ := segL hsg hx
        obtain ⟨hsx, hlx, hox⟩ := LL.out x (List.mem_of_getElem? hx)
        have HSX := Lib.hid hsx
        have HOX := Lib.hid hox
        have HT := Lib.hid (amD_take hx i tt)
        clear hx ea hsg hst hkp hsx hox
        go_wp2
        go_loopw [32] (fun y wq => ∃ j : Nat, j ≤ x.l.length ∧ y = .int .i64 j ∧ St wq bE bT (sumE s (amD (ls.take k) i tt ++ ams (x.l.take j) i tt)) ∧ Kp bE bT V wq) (fun y _ => x.l.length - (intOf y).toNat)
        case atStart => exact ⟨0, by omega, rfl, by simpa [ams] using HST.out, HKP.out⟩
        case round =>
          obtain ⟨j, hj, rfl, hst, hkp⟩ := hrel
          have HST2 := Lib.hid hst
          have HKP2 := Lib.hid hkp
          by_cases hlj : j < x.l.length
          · obtain ⟨d, hd⟩ : ∃ d, x.l[j]? = some d := ⟨_, List.getElem?_eq_getElem hlj⟩
            have hbq := HB0.out.trans (hkp.below n4.1 n4.2 lz)
            obtain ⟨b', off', ea, hb', d0, d1, d2, d3⟩ := segD (HSX.out.below hbq) hd
            have hbl : b' < wr.heap.size := Nat.lt_of_lt_of_le hb' hbq.size
            obtain ⟨⟨f1, f2, f3, f4, f5⟩, hvd, _⟩ := okD_of (HOX.out d (List.mem_of_getElem? hd))
            obtain ⟨w1, w2, w3⟩ := qOf_vld hvd
            have HT2 := Lib.hid (ams_take hd i tt)
            have HK : Hid (∀ W, St W bE bT (sumE s (amD (ls.take k) i tt ++ ams (x.l.take j) i tt)) → Calls Try.prog 50 #[.agg #[.int .i64 d.n, .int .i64 d.d], .pointer (some ⟨bE, 0, none⟩), .pointer (some ⟨bT, 0, none⟩)] W fun e w' => e = .returned (.tuple #[]) ∧ St w' bE bT (addE (sumE s (amD (ls.take k) i tt ++ ams (x.l.take j) i tt)) (qOf d)) ∧ Kp bE bT W w') := fun W hW => by
              have := oadd_any (qOf d) _ bE bT W w3 hne hW
              rwa [w1, w2] at this
            have gfq := (hkp.blk GFV.out n3.1 n3.2)
            have lfq := gfq.lt
            obtain ⟨cf, _⟩ := gfq.one
            rw [ea]
            clear hd hst hkp hbq hvd w1 w2 w3 ea gfq
            by_cases hf : d.f = i
            · have hf' : (d.f == i) = true := by simpa using hf
              by_cases ht : tt < 0
              · have hsel := Lib.hid (show sel i tt d = true by simp [sel, hf, ht])
                go_wp2_with (go_at_call 50; with_reducible refine (HK.out _ (HST2.out.then_ (wa1 _ _))).mono ?_; rintro e w6 ⟨rfl, hs6, hk6⟩)
                go_roundw
                case rel => exact ⟨j + 1, by omega, by go_num, by rw [HT2.out, hsel.out, if_pos rfl, ← List.append_assoc, sumE_app _ _ [qOf d], sumE_one]; exact hs6, (HKP2.out.trans (Kp.of (wa1 _ _))).trans hk6⟩
                case measure => simp [intOf]; omega
              · by_cases hq : d.t = tt
                · have hq' : (d.t == tt) = true := by simpa using hq
                  have hsel := Lib.hid (show sel i tt d = true by simp [sel, hf, hq])
                  go_wp2_with (go_at_call 50; with_reducible refine (HK.out _ (HST2.out.then_ (wa1 _ _))).mono ?_; rintro e w6 ⟨rfl, hs6, hk6⟩)
                  go_roundw
                  case rel => exact ⟨j + 1, by omega, by go_num, by rw [HT2.out, hsel.out, if_pos rfl, ← List.append_assoc, sumE_app _ _ [qOf d], sumE_one]; exact hs6, (HKP2.out.trans (Kp.of (wa1 _ _))).trans hk6⟩
                  case measure => simp [intOf]; omega
                · have hq' : (d.t == tt) = false := by simpa using hq
                  have hsel := Lib.hid (show sel i tt d = false by simp [sel, hq, ht])
                  go_wp2
                  go_roundw
                  case rel => exact ⟨j + 1, by omega, by go_num, by rw [HT2.out, hsel.out, if_neg (by decide), List.append_nil]; exact HST2.out.then_ (wa1 _ _), HKP2.out.trans (Kp.of (wa1 _ _))⟩
                  case measure => simp [intOf]; omega
            · have hf' : (d.f == i) = false := by simpa using hf
              have hsel := Lib.hid (show sel i tt d = false by simp [sel, hf])
              go_wp2
              go_roundw
              case rel => exact ⟨j + 1, by omega, by go_num, by rw [HT2.out, hsel.out, if_neg (by decide), List.append_nil]; exact HST2.out.then_ (wa1 _ _), HKP2.out.trans (Kp.of (wa1 _ _))⟩
              case measure => simp [intOf]; omega
          · obtain rfl : j = x.l.length := by omega
            go_wp2
            go_roundw
            case rel => exact ⟨k + 1, by omega, by go_num, by have := HST2.out; rw [List.take_length] at this; rw [HT.out]; exact this, HKP2.out⟩
            case measure => simp [intOf]; omega
      · obtain rfl : k = ls.length := by omega
        go_wp2
        go_end0
        refine ⟨rfl, ?_, (Kp.of (below_then (Below.refl _ _) (by exact HVX.out))).trans HKP.out⟩
        have := HST.out
        rw [List.take_length] at this
        rw [HE.out]; exact this)
end Go.Proofs.Yteoicnhnpailiaa
