/- Contracts of functions and plain laws, joined: Pt2, Pt3, Pw0, Pt4, Qt. -/
import Derived.Test.YtplommmegkdhdaaGreatDoorMb2
import Derived.Test.YtplommmegkdhdaaGreatDoorMb1
import Derived.Lib.QuietBelow
import Derived.Lib.Bytealg
import Derived.Lib.Strings
import Derived.StillTail
/- Plain: a patch's text is parsed as the patch, and a text that is parsed is the text of what comes. -/
namespace Go.Proofs.YtplommmegkdhdaaGreatDoor

def parseR (t : List UInt8) : Rs := if pword.isPrefixOf t then ⟨t.drop 5, false⟩ else ⟨t, true⟩
/-- six numbers -/
def Rs.six (s : Rs) : (Int × Int × Int × Int × Int × Int) × Rs :=
  let a := s.num; let b := a.2.num; let c := b.2.num; let d := c.2.num; let e := d.2.num; let f := e.2.num
  ((a.1, b.1, c.1, d.1, e.1, f.1), f.2)
def parseG (s : Rs) : Pat × Rs :=
  let a := s.num; let b := a.2.num; let c := b.2.upTo 400
  let d := Rs.many c.1.toNat c.2
  let e := d.2.six
  let f := e.2.upTo 1; let g := f.2.upTo 1
  let h := g.2.six
  let i := h.2.upTo 1; let j := i.2.upTo 8
  let k := Rs.pairs j.1.toNat j.2
  (⟨a.1, d.1, ⟨e.1.1, e.1.2.1, e.1.2.2.1, e.1.2.2.2.1, k.1, e.1.2.2.2.2.1, e.1.2.2.2.2.2, f.1 == 1, g.1 == 1, h.1.1, h.1.2.1, (h.1.2.2.1, h.1.2.2.2.1), h.1.2.2.2.2.1, h.1.2.2.2.2.2, i.1 == 1⟩, b.1⟩, k.2)
def parseP (t : List UInt8) : Option Pat :=
  let q := parseG (parseR t)
  if q.2.bad = true ∨ q.2.rest ≠ [] then none else some q.1

/-- from s to s' the numbers l are read -/
def Reads (s : Rs) (l : List Int) (s' : Rs) : Prop := s.bad = false ∧ s'.bad = false ∧ s.rest = l.flatMap wnum ++ s'.rest ∧ (l ≠ [] → Bl s'.rest) ∧ ∀ n ∈ l, I64 n
theorem Reads.refl {s : Rs} (h : s.bad = false) : Reads s [] s := ⟨h, h, rfl, fun h => absurd rfl h, fun _ h => by cases h⟩
theorem Reads.trans {s t u : Rs} {l m : List Int} (h : Reads s l t) (h' : Reads t m u) : Reads s (l ++ m) u := by
  refine ⟨h.1, h'.2.1, ?_, ?_, ?_⟩
  · rw [h.2.2.1, h'.2.2.1, List.flatMap_append, List.append_assoc]
  · intro hne
    by_cases hm : m = []
    · subst hm
      have := h'.2.2.1
      simp only [List.flatMap_nil, List.nil_append] at this
      rw [← this]
      refine h.2.2.2.1 fun hl => hne (by rw [hl]; rfl)
    · exact h'.2.2.2.1 hm
  · intro n hn
    rcases List.mem_append.1 hn with hn | hn
    · exact h.2.2.2.2 n hn
    · exact h'.2.2.2.2 n hn
theorem num_back {s : Rs} (h : s.num.2.bad = false) : Reads s [s.num.1] s.num.2 := by
  cases hr : rd s.rest with
  | none => simp only [Rs.num, hr] at h; cases h
  | some x =>
    obtain ⟨n, t⟩ := x
    obtain ⟨h1, h2, h3⟩ := rd_some hr
    have hb : s.bad = false := by simpa only [Rs.num, hr] using h
    have hn : s.num = (n, ⟨t, s.bad⟩) := by simp only [Rs.num, hr]
    rw [hn]
    refine ⟨hb, hb, ?_, fun _ => h2, ?_⟩
    · rw [h1]; simp
    · intro m hm
      rw [List.mem_singleton.1 hm]; exact h3
theorem num_fwd {s : Rs} {n : Int} {t : List UInt8} (hb : s.bad = false) (hr : s.rest = wnum n ++ t) (hn : I64 n) (ht : Bl t) : s.num = (n, ⟨t, false⟩) := by
  have := rd_wnum hn ht
  unfold Rs.num
  rw [hr, this, hb]
theorem num_at {n : Int} {t : List UInt8} (hn : I64 n) (ht : Bl t) : (⟨wnum n ++ t, false⟩ : Rs).num = (n, ⟨t, false⟩) := num_fwd rfl rfl hn ht
theorem upTo_back {s : Rs} {m : Int} (h : (s.upTo m).2.bad = false) : Reads s [(s.upTo m).1] (s.upTo m).2 ∧ 0 ≤ (s.upTo m).1 ∧ (s.upTo m).1 ≤ m := by
  by_cases hc : s.num.1 < 0 ∨ m < s.num.1
  · have : s.upTo m = (0, ⟨[], true⟩) := if_pos hc
    rw [this] at h; cases h
  · have he : s.upTo m = s.num := if_neg hc
    rw [he] at h ⊢
    exact ⟨num_back h, by omega, by omega⟩
theorem upTo_fwd {s : Rs} {m n : Int} {t : List UInt8} (hb : s.bad = false) (hr : s.rest = wnum n ++ t) (hn : I64 n) (ht : Bl t) (h0 : 0 ≤ n) (hm : n ≤ m) : s.upTo m = (n, ⟨t, false⟩) := by
  have := num_fwd hb hr hn ht
  unfold Rs.upTo
  rw [this]
  exact if_neg (by simp only; omega)
theorem bad_num {s : Rs} (h : s.bad = true) : s.num.2.bad = true := by
  unfold Rs.num
  split <;> simp [h]
theorem many_back : ∀ (n : Nat) {s : Rs}, (Rs.many n s).2.bad = false → Reads s (Rs.many n s).1 (Rs.many n s).2 ∧ (Rs.many n s).1.length = n
  | 0, s, h => ⟨Reads.refl h, rfl⟩
  | n + 1, s, h => by
    have hq := num_back (s := (Rs.many n s).2) h
    obtain ⟨h1, h2⟩ := many_back n hq.1
    exact ⟨h1.trans hq, by show ((Rs.many n s).1 ++ [_]).length = n + 1; rw [List.length_append, h2]; rfl⟩
theorem snoc {α : Type} {l : List α} {k : Nat} (h : l.length = k + 1) : ∃ l' n, l = l' ++ [n] ∧ l'.length = k := by
  have hne : l ≠ [] := by intro h0; rw [h0] at h; cases h
  exact ⟨l.dropLast, l.getLast hne, (List.dropLast_concat_getLast hne).symm, by rw [List.length_dropLast, h]; rfl⟩
theorem many_fwd : ∀ (k : Nat) {l : List Int} {s : Rs} {t : List UInt8}, l.length = k → s.bad = false → s.rest = l.flatMap wnum ++ t → (∀ n ∈ l, I64 n) → (l ≠ [] → Bl t) → Rs.many k s = (l, ⟨t, false⟩)
  | 0, l, s, t, hl, hb, hr, _, _ => by
    rw [List.length_eq_zero_iff] at hl
    subst hl
    obtain ⟨r, b⟩ := s
    simp only [List.flatMap_nil, List.nil_append] at hr hb
    subst hr; subst hb; rfl
  | k + 1, l, s, t, hl, hb, hr, hn, ht => by
    obtain ⟨l, n, rfl, hk⟩ := snoc hl
    have ht' : Bl t := ht (by simp)
    rw [List.flatMap_append, List.append_assoc] at hr
    simp only [List.flatMap_cons, List.flatMap_nil, List.append_nil] at hr
    have h1 := many_fwd k hk hb hr (fun m hm => hn m (List.mem_append_left _ hm)) (fun _ => Bl.wnum _ _)
    have h2 := num_fwd (s := ⟨wnum n ++ t, false⟩) rfl rfl (hn n (by simp)) ht'
    show (let q := Rs.many k s; (q.1 ++ [q.2.num.1], q.2.num.2)) = _
    rw [h1]
    simp only [h2]
theorem pairs_back : ∀ (n : Nat) {s : Rs}, (Rs.pairs n s).2.bad = false → Reads s (prsI (Rs.pairs n s).1) (Rs.pairs n s).2 ∧ (Rs.pairs n s).1.length = n
  | 0, s, h => ⟨Reads.refl h, rfl⟩
  | n + 1, s, h => by
    have hb := num_back (s := (Rs.pairs n s).2.num.2) h
    have ha := num_back hb.1
    obtain ⟨h1, h2⟩ := pairs_back n ha.1
    refine ⟨?_, by show ((Rs.pairs n s).1 ++ [_]).length = n + 1; rw [List.length_append, h2]; rfl⟩
    have := (h1.trans ha).trans hb
    show Reads s (prsI ((Rs.pairs n s).1 ++ [((Rs.pairs n s).2.num.1, (Rs.pairs n s).2.num.2.num.1)])) _
    have hp : prsI ((Rs.pairs n s).1 ++ [((Rs.pairs n s).2.num.1, (Rs.pairs n s).2.num.2.num.1)]) = (prsI (Rs.pairs n s).1 ++ [(Rs.pairs n s).2.num.1]) ++ [(Rs.pairs n s).2.num.2.num.1] := by simp [prsI]
    rw [hp]
    exact this
theorem pairs_fwd : ∀ (k : Nat) {l : List (Int × Int)} {s : Rs} {t : List UInt8}, l.length = k → s.bad = false → s.rest = (prsI l).flatMap wnum ++ t → (∀ n ∈ prsI l, I64 n) → (l ≠ [] → Bl t) → Rs.pairs k s = (l, ⟨t, false⟩)
  | 0, l, s, t, hl, hb, hr, _, _ => by
    rw [List.length_eq_zero_iff] at hl
    subst hl
    obtain ⟨r, b⟩ := s
    simp only [prsI, List.flatMap_nil, List.nil_append] at hr hb
    subst hr; subst hb; rfl
  | k + 1, l, s, t, hl, hb, hr, hn, ht => by
    obtain ⟨l, n, rfl, hk⟩ := snoc hl
    have ht' : Bl t := ht (by simp)
    have hp : prsI (l ++ [n]) = prsI l ++ [n.1, n.2] := by simp [prsI]
    rw [hp] at hr hn
    rw [List.flatMap_append, List.append_assoc] at hr
    simp only [List.flatMap_cons, List.flatMap_nil, List.append_nil, List.append_assoc] at hr
    have h1 := pairs_fwd k hk hb hr (fun m hm => hn m (List.mem_append_left _ hm)) (fun _ => Bl.wnum _ _)
    have h2 := num_fwd (s := ⟨wnum n.1 ++ (wnum n.2 ++ t), false⟩) rfl rfl (hn n.1 (by simp)) (Bl.wnum _ _)
    have h3 := num_fwd (s := ⟨wnum n.2 ++ t, false⟩) rfl rfl (hn n.2 (by simp)) ht'
    show (let q := Rs.pairs k s; (q.1 ++ [(q.2.num.1, q.2.num.2.num.1)], q.2.num.2.num.2)) = _
    rw [h1]
    simp only [h2, h3]
def six (a : Int × Int × Int × Int × Int × Int) : List Int := [a.1, a.2.1, a.2.2.1, a.2.2.2.1, a.2.2.2.2.1, a.2.2.2.2.2]
theorem six_back {s : Rs} (h : s.six.2.bad = false) : Reads s (six s.six.1) s.six.2 := by
  have h6 := num_back (s := s.num.2.num.2.num.2.num.2.num.2) h
  have h5 := num_back h6.1
  have h4 := num_back h5.1
  have h3 := num_back h4.1
  have h2 := num_back h3.1
  have h1 := num_back h2.1
  exact ((((h1.trans h2).trans h3).trans h4).trans h5).trans h6
theorem six_fwd {s : Rs} {a : Int × Int × Int × Int × Int × Int} {t : List UInt8} (hb : s.bad = false) (hr : s.rest = (six a).flatMap wnum ++ t) (hn : ∀ n ∈ six a, I64 n) (ht : Bl t) : s.six = (a, ⟨t, false⟩) := by
  obtain ⟨a1, a2, a3, a4, a5, a6⟩ := a
  simp only [six, List.flatMap_cons, List.flatMap_nil, List.append_nil, List.append_assoc] at hr
  simp only [six, List.mem_cons, List.not_mem_nil, or_false, forall_eq_or_imp, forall_eq] at hn
  obtain ⟨n1, n2, n3, n4, n5, n6⟩ := hn
  have h1 := num_fwd hb hr n1 (Bl.wnum _ _)
  simp only [Rs.six, h1, num_at n2 (Bl.wnum _ _), num_at n3 (Bl.wnum _ _), num_at n4 (Bl.wnum _ _), num_at n5 (Bl.wnum _ _), num_at n6 ht]

theorem bit_I64 (b : Bool) : I64 (bitI b) := by cases b <;> exact ⟨by decide, by decide⟩
theorem bit_back {v : Int} (h0 : 0 ≤ v) (h1 : v ≤ 1) : bitI (v == 1) = v := by
  have : v = 0 ∨ v = 1 := by omega
  rcases this with rfl | rfl <;> rfl
theorem bit_one (b : Bool) : (bitI b == 1) = b := by cases b <;> rfl
end Go.Proofs.YtplommmegkdhdaaGreatDoor
/- Plain: Parse inverts Text, and what is parsed is printed again. -/
namespace Go.Proofs.YtplommmegkdhdaaGreatDoor

theorem prefix_iff {t : List UInt8} (h : pword.isPrefixOf t = true) : t = pword ++ t.drop 5 := by
  obtain ⟨r, rfl⟩ := List.isPrefixOf_iff_prefix.1 h
  rfl
theorem parse_back {t : List UInt8} {p : Pat} (h : parseP t = some p) : p.text = t ∧ p.cls.length ≤ 400 ∧ p.new.start.length ≤ 8 := by
  simp only [parseP] at h
  split at h
  · cases h
  · rename_i hc
    injection h with h
    have hb : (parseG (parseR t)).2.bad = false := by
      cases hx : (parseG (parseR t)).2.bad
      · rfl
      · exact absurd (.inl hx) hc
    have hr : (parseG (parseR t)).2.rest = [] := by
      by_cases hx : (parseG (parseR t)).2.rest = []
      · exact hx
      · exact absurd (.inr hx) hc
    generalize hs : parseR t = s at h hb hr
    obtain ⟨Rk, lk⟩ := pairs_back _ hb
    obtain ⟨Rj, j0, j8⟩ := upTo_back Rk.1
    obtain ⟨Ri, i0, i1⟩ := upTo_back Rj.1
    have Rh := six_back Ri.1
    obtain ⟨Rg, g0, g1⟩ := upTo_back Rh.1
    obtain ⟨Rf, f0, f1⟩ := upTo_back Rg.1
    have Re := six_back Rf.1
    obtain ⟨Rd, ld⟩ := many_back _ Re.1
    obtain ⟨Rc, c0, c4⟩ := upTo_back Rd.1
    have Rb := num_back Rc.1
    have Ra := num_back Rb.1
    have R := (((((((((Ra.trans Rb).trans Rc).trans Rd).trans Re).trans Rf).trans Rg).trans Rh).trans Ri).trans Rj).trans Rk
    have hsz : p.cls.length ≤ 400 ∧ p.new.start.length ≤ 8 := by
      rw [← h]
      exact ⟨by show (Rs.many _ _).1.length ≤ 400; rw [ld]; omega, by show (Rs.pairs _ _).1.length ≤ 8; rw [lk]; omega⟩
    have hw : pword.isPrefixOf t = true := by
      cases hx : pword.isPrefixOf t
      · rw [parseR, hx] at hs
        rw [← hs] at Ra
        cases Ra.1
      · rfl
    have hst : s.rest = t.drop 5 := by rw [← hs, parseR, hw]; rfl
    refine ⟨?_, hsz⟩
    rw [Pat.text, if_pos hsz]
    have he := R.2.2.1
    have hr' : (Rs.pairs _ _).2.rest = [] := hr
    rw [hr', List.append_nil, hst] at he
    rw [prefix_iff hw, he]
    congr 2
    rw [← h]
    simp only [Pat.nums, Cla.numsA, six, bit_back f0 f1, bit_back g0 g1, bit_back i0 i1, ld, lk, Int.toNat_of_nonneg c0, Int.toNat_of_nonneg j0, parseG, List.append_assoc, List.cons_append, List.nil_append]
set_option maxRecDepth 10000 in
theorem parse_text {p : Pat} (h1 : p.cls.length ≤ 400) (h2 : p.new.start.length ≤ 8) (hI : ∀ n ∈ p.nums, I64 n) : parseP p.text = some p := by
  have ht : p.text = pword ++ p.nums.flatMap wnum := if_pos ⟨h1, h2⟩
  have hp : parseR p.text = ⟨p.nums.flatMap wnum, false⟩ := by
    rw [ht]
    exact if_pos (by simp [pword, List.isPrefixOf])
  have hg : parseG ⟨p.nums.flatMap wnum, false⟩ = (p, ⟨[], false⟩) := by
    obtain ⟨kind, cls, ⟨ck, cr, ca, cn, st, caf, cg, cb, cf, cp, crs, ⟨v1, v2⟩, cu, ct, cw⟩, days⟩ := p
    have hf : Pat.nums ⟨kind, cls, ⟨ck, cr, ca, cn, st, caf, cg, cb, cf, cp, crs, ⟨v1, v2⟩, cu, ct, cw⟩, days⟩ = [kind, days, (cls.length : Int)] ++ cls ++ six (ck, cr, ca, cn, caf, cg) ++ [bitI cb] ++ [bitI cf] ++ six (cp, crs, v1, v2, cu, ct) ++ [bitI cw, (st.length : Int)] ++ prsI st := by
      simp [Pat.nums, Cla.numsA, six]
    rw [hf] at hI ⊢
    obtain ⟨Q, hQ⟩ : ∃ Q : Int → Prop, Q = (fun n => I64 n) := ⟨_, rfl⟩
    replace hI : ∀ n ∈ [kind, days, (cls.length : Int)] ++ cls ++ six (ck, cr, ca, cn, caf, cg) ++ [bitI cb] ++ [bitI cf] ++ six (cp, crs, v1, v2, cu, ct) ++ [bitI cw, (st.length : Int)] ++ prsI st, Q n := by rw [hQ]; exact hI
    simp only [List.mem_append, or_imp, forall_and, List.mem_cons, List.not_mem_nil, or_false, forall_eq] at hI
    obtain ⟨⟨⟨⟨⟨⟨⟨⟨n1, n2, n3⟩, nc⟩, ne⟩, nf⟩, ng⟩, nh⟩, ni, nj⟩, nk⟩ := hI
    subst hQ
    simp only [List.flatMap_append, List.flatMap_cons, List.flatMap_nil, List.append_nil, List.append_assoc]
    have k0 : (prsI st).flatMap wnum = (prsI st).flatMap wnum ++ [] := (List.append_nil _).symm
    have Bk : Bl ((prsI st).flatMap wnum) := by rw [k0]; exact Bl.all _ Bl.nil
    have Be : ∀ (x : Int × Int × Int × Int × Int × Int) (t : List UInt8), Bl ((six x).flatMap wnum ++ t) := fun x t => .inr ⟨_, rfl⟩
    have hd := many_fwd cls.length (l := cls) (s := ⟨cls.flatMap wnum ++ ((six (ck, cr, ca, cn, caf, cg)).flatMap wnum ++ (wnum (bitI cb) ++ (wnum (bitI cf) ++ ((six (cp, crs, v1, v2, cu, ct)).flatMap wnum ++ (wnum (bitI cw) ++ (wnum (st.length : Int) ++ (prsI st).flatMap wnum)))))), false⟩) rfl rfl rfl nc (fun _ => Be _ _)
    have he := six_fwd (a := (ck, cr, ca, cn, caf, cg)) (s := ⟨(six (ck, cr, ca, cn, caf, cg)).flatMap wnum ++ (wnum (bitI cb) ++ (wnum (bitI cf) ++ ((six (cp, crs, v1, v2, cu, ct)).flatMap wnum ++ (wnum (bitI cw) ++ (wnum (st.length : Int) ++ (prsI st).flatMap wnum))))), false⟩) rfl rfl ne (Bl.wnum _ _)
    have hh := six_fwd (a := (cp, crs, v1, v2, cu, ct)) (s := ⟨(six (cp, crs, v1, v2, cu, ct)).flatMap wnum ++ (wnum (bitI cw) ++ (wnum (st.length : Int) ++ (prsI st).flatMap wnum)), false⟩) rfl rfl nh (Bl.wnum _ _)
    have hk := pairs_fwd st.length (l := st) (s := ⟨(prsI st).flatMap wnum, false⟩) rfl rfl k0 nk (fun _ => Bl.nil)
    have up : ∀ {n m : Int} {t : List UInt8}, I64 n → Bl t → 0 ≤ n → n ≤ m → (⟨wnum n ++ t, false⟩ : Rs).upTo m = (n, ⟨t, false⟩) := fun hn ht h0 hm => upTo_fwd rfl rfl hn ht h0 hm
    have b0 : ∀ b, 0 ≤ bitI b ∧ bitI b ≤ 1 := by intro b; cases b <;> exact ⟨by decide, by decide⟩
    have Bc : Bl (cls.flatMap wnum ++ ((six (ck, cr, ca, cn, caf, cg)).flatMap wnum ++ (wnum (bitI cb) ++ (wnum (bitI cf) ++ ((six (cp, crs, v1, v2, cu, ct)).flatMap wnum ++ (wnum (bitI cw) ++ (wnum (st.length : Int) ++ (prsI st).flatMap wnum))))))) := Bl.all _ (Be _ _)
    have l1 : ((cls.length : Nat) : Int) ≤ 400 := by exact_mod_cast h1
    have l2 : ((st.length : Nat) : Int) ≤ 8 := by exact_mod_cast h2
    simp only [parseG, num_at n1 (Bl.wnum _ _), num_at n2 (Bl.wnum _ _), up n3 Bc (Int.natCast_nonneg _) l1, Int.toNat_natCast, hd, he, up nf (Bl.wnum _ _) (b0 cb).1 (b0 cb).2, up ng (Be _ _) (b0 cf).1 (b0 cf).2, hh, up ni (Bl.wnum _ _) (b0 cw).1 (b0 cw).2, up nj Bk (Int.natCast_nonneg _) l2, hk, bit_one]
  simp only [parseP, hp, hg]
  simp
end Go.Proofs.YtplommmegkdhdaaGreatDoor
/- The standard library's functions that patch's texts need, at every input: Itoa, Atoi; what the listed variables must hold (as in Rb7 at ratio's seat). -/
namespace Go.Proofs.YtplommmegkdhdaaGreatDoor
open Go.RowKit

/-- what the library's variables hold -/
structure Lw (w : World) : Prop where
  tab : Lib.TabIs Tryz.prog w "internal/strconv.uint64pow10" .u64 Lib.pow10Tab
  sy : ∃ ev, w.cell? ⟨1, 0, none⟩ = some ev ∧ (ev = .nilIface ∨ ∃ te pe, ev = .iface te pe)
  rg : ∃ ev, w.cell? ⟨2, 0, none⟩ = some ev ∧ (ev = .nilIface ∨ ∃ te pe, ev = .iface te pe)
theorem tab_below {P : Program} {w w' : World} {name : String} {k : IntKind} {zs : List Int} (h : Lib.TabIs P w name k zs) (hb : Below w.heap.size w w') : Lib.TabIs P w' name k zs := by
  unfold Lib.TabIs World.var? at *
  cases hg : P.globalNamed name with
  | none => simp [hg] at h
  | some g =>
    simp only [hg, Option.bind_some] at h ⊢
    have hlt : g < w.heap.size := by
      rcases Nat.lt_or_ge g w.heap.size with hl | hl
      · exact hl
      · rw [Array.getElem?_eq_none hl] at h; simp at h
    rw [hb.block g hlt]
    exact h
theorem Lw.below {w w' : World} (h : Lw w) (hb : Below w.heap.size w w') : Lw w' := by
  obtain ⟨e1, h1, h2⟩ := h.sy
  obtain ⟨e2, h3, h4⟩ := h.rg
  exact ⟨tab_below h.tab hb, ⟨e1, (hb.cell (block_lt_of_cell h1)).trans h1, h2⟩, ⟨e2, (hb.cell (block_lt_of_cell h3)).trans h3, h4⟩⟩
theorem itoa_any (n : Int) (w : World) (hL : Lw w) (h0 : -9223372036854775808 ≤ n) (h1 : n ≤ 9223372036854775807) :
    Calls Tryz.prog 51 #[.int .i64 n] w fun e w' => e = .returned (.string ⟨(Lib.itoa n).toArray⟩) ∧ Below w.heap.size w w' :=
  (Tryz.strconv_Itoa n h0 h1 w hL.tab).mono fun _ _ ⟨a, k, os, b⟩ => ⟨a, by subst b; exact below_regrown w (w.drawn + k) os⟩
theorem atoi_ok (s : ByteArray) (v : Int) (w : World) (hs : s.size ≤ 281474976710656) (h : Lib.atoiAll s.data.toList = .ok v) :
    Calls Tryz.prog 50 #[.string s] w fun e w' => e = .returned (.tuple #[.int .i64 v, .nilIface]) ∧ Below w.heap.size w w' :=
  (Tryz.strconv_Atoi_ok s (by omega) v h w).mono fun _ _ ⟨a, b⟩ => ⟨a, by
    rcases b with rfl | ⟨t, rfl⟩
    · exact Below.refl _ _
    · exact Lib.bytesWorld_below _ _ _⟩
theorem atoi_no (s : ByteArray) (w : World) (hL : Lw w) (hs : s.size ≤ 281474976710656) (h : ∀ v, Lib.atoiAll s.data.toList ≠ .ok v) :
    Calls Tryz.prog 50 #[.string s] w fun e w' => ∃ v t p, e = .returned (.tuple #[.int .i64 v, .iface t p]) ∧ Below w.heap.size w w' := by
  by_cases hc : Lib.atoiAll s.data.toList = .range
  · obtain ⟨ev, h1, h2⟩ := hL.rg
    exact (Tryz.strconv_Atoi_range s hs hc ev w h1 h2).mono fun _ _ ⟨N, a, _, _, b⟩ => ⟨_, _, _, a, b⟩
  · obtain ⟨ev, h1, h2⟩ := hL.sy
    exact (Tryz.strconv_Atoi_bad s hs h hc ev w h1 h2).mono fun _ _ ⟨N, a, _, _, b⟩ => ⟨_, _, _, a, b⟩
end Go.Proofs.YtplommmegkdhdaaGreatDoor
/- Plain: where a word ends, as the reader's code finds it. -/
namespace Go.Proofs.YtplommmegkdhdaaGreatDoor

def wd (l : List UInt8) : List UInt8 := l.takeWhile (· != 32)
def wr (l : List UInt8) : List UInt8 := l.dropWhile (· != 32)
theorem wd_wr (l : List UInt8) : wd l ++ wr l = l := List.takeWhile_append_dropWhile
theorem take_wd (l : List UInt8) : l.take (wd l).length = wd l := by
  conv => lhs; arg 2; rw [← wd_wr l]
  exact List.take_left
theorem drop_wd (l : List UInt8) : l.drop (wd l).length = wr l := by
  conv => lhs; arg 2; rw [← wd_wr l]
  exact List.drop_left
theorem wd_le (l : List UInt8) : (wd l).length ≤ l.length := by
  have := congrArg List.length (wd_wr l)
  rw [List.length_append] at this
  omega
theorem ix_wd : ∀ l : List UInt8, Lib.indexByte l 32 = if (32 : UInt8) ∈ l then ((wd l).length : Int) else -1
  | [] => rfl
  | b :: l => by
    unfold Lib.indexByte
    rw [ix_wd l]
    by_cases hb : b = 32
    · subst hb
      simp [wd]
    · have h1 : (b == 32) = false := by simpa using hb
      have h2 : wd (b :: l) = b :: wd l := by
        unfold wd
        rw [List.takeWhile_cons, if_pos (by simpa using hb)]
      rw [h1, h2]
      by_cases hm : (32 : UInt8) ∈ l
      · rw [if_pos hm, if_pos (List.mem_cons_of_mem _ hm)]
        have : (((wd l).length : Int) == -1) = false := by simp
        rw [this]
        simp
      · have hm' : ¬ (32 : UInt8) ∈ b :: l := fun h => by
          rcases List.mem_cons.1 h with h | h
          · exact hb h.symm
          · exact hm h
        rw [if_neg hm, if_neg hm']
        rfl
theorem wd_all {l : List UInt8} (h : (32 : UInt8) ∉ l) : wd l = l := by
  have hall : ∀ x ∈ l, (x != 32) = true := fun x hx => by
    have : x ≠ 32 := fun e => h (e ▸ hx)
    simpa using this
  have := List.takeWhile_append_of_pos (l₂ := []) hall
  simpa [wd] using this
theorem rd_eq (l : List UInt8) : rd l = match l with
    | [] => none
    | c :: t => if c = 32 then (match Lib.atoiAll (wd t) with
      | .ok n => if Lib.itoa n = wd t then some (n, wr t) else none
      | _ => none) else none := by
  cases l <;> rfl
end Go.Proofs.YtplommmegkdhdaaGreatDoor
/- A region that draws its order: reads and quiet calls (whose callees leave all that was there as it was) in whatever order, and behind all of them a tail whose operations come one behind the other, but for plain moves. One walk of the order of the text serves. -/
namespace Go.Proofs.YtplommmegkdhdaaGreatDoor
open Go.RowKit Go.Sort

/-- what is asked at a panic looks at the deferred calls alone -/
def PanOk (Q : Exit → Act → World → Prop) : Prop := ∀ c (a a' : Act) w, a'.defers = a.defers → Q (.panic c) a w → Q (.panic c) a' w
theorem panOk_body {P : Program} {fn : Func} {R : Ending → World → Prop} : PanOk (bodyPost P fn R) := fun _ _ _ _ hd h => ⟨hd.trans h.1, h.2⟩
theorem panOk_then {K : Act → World → Prop} {Q : Exit → Act → World → Prop} (h : PanOk Q) : PanOk (Exit.then K Q) := fun c a a' w hd hq => h c a a' w hd hq
theorem panOk_block {id : Nat} {Q : Exit → Act → World → Prop} (h : PanOk Q) : PanOk (Exit.inBlock id Q) := fun c a a' w hd hq => h c a a' w hd hq

section
variable {P : Program} {ops : Array Oper} {md : Region.Mode} {C : World → Prop} {n : Nat}

/-- t waits for i, by itself or through others -/
def anc (md : Region.Mode) (ops : Array Oper) : Nat → Nat → Nat → Bool
  | 0, t, i => Region.waitsFor md ops t i
  | f + 1, t, i => Region.waitsFor md ops t i || (List.range ops.size).any fun j => Region.waitsFor md ops t j && anc md ops f j i

/-- what is listed is closed under what it waits for -/
def Cl (md : Region.Mode) (ops : Array Oper) (listed : Array Bool) : Prop :=
  ∀ j oj, ops[j]? = some oj → listed.getD j false = true → ∀ e ∈ oj.after, Region.binds md e = true → listed.getD e.on false = true

theorem Cl.set {i : Nat} {listed : Array Bool} (h : Cl md ops listed) (hi : i ∈ Region.ready md ops listed) : Cl md ops (listed.setIfInBounds i true) := by
  obtain ⟨_, oi, hoi, hall⟩ := mem_ready.1 hi
  intro j oj hj hl e he hb
  by_cases hij : i = j
  · subst hij
    obtain rfl : oj = oi := Option.some.inj (hj.symm.trans hoi)
    exact getD_set_true (hall e he hb)
  · rw [getD_set_ne false hij] at hl
    exact getD_set_true (h j oj hj hl e he hb)

theorem anc_listed {listed : Array Bool} (h : Cl md ops listed) : ∀ (f t i : Nat) (ot : Oper), ops[t]? = some ot → (∀ e ∈ ot.after, Region.binds md e = true → listed.getD e.on false = true) → anc md ops f t i = true → listed.getD i false = true
  | 0, t, i, ot, hot, hall, ha => by
    obtain ⟨o', ho', e, he, hb, hon⟩ := Region.waitsFor_spec ha
    obtain rfl : o' = ot := Option.some.inj (ho'.symm.trans hot)
    rw [← hon]; exact hall e he hb
  | f + 1, t, i, ot, hot, hall, ha => by
    simp only [anc, Bool.or_eq_true] at ha
    rcases ha with ha | ha
    · exact anc_listed h 0 t i ot hot hall ha
    · obtain ⟨j, hj, hj2⟩ := List.any_eq_true.1 ha
      simp only [Bool.and_eq_true] at hj2
      obtain ⟨o', ho', e, he, hb, hon⟩ := Region.waitsFor_spec hj2.1
      obtain rfl : o' = ot := Option.some.inj (ho'.symm.trans hot)
      have hl := hall e he hb
      rw [hon] at hl
      have hjs : j < ops.size := List.mem_range.1 hj
      exact anc_listed h f j i _ (Array.getElem?_eq_getElem hjs) (h j _ (Array.getElem?_eq_getElem hjs) hl) hj2.2

/-- each operation that is not of the head waits for each of the head -/
def dirB (md : Region.Mode) (ops : Array Oper) (hs : List Nat) : Bool :=
  (List.range ops.size).all fun t => hs.contains t || hs.all fun i => anc md ops ops.size t i

theorem dirB_not {hs : List Nat} {t i : Nat} {listed : Array Bool} (h : dirB md ops hs = true) (hcl : Cl md ops listed) (ht : hs.contains t = false) (hi : i ∈ hs) (hu : listed.getD i true = false) : t ∉ Region.ready md ops listed := by
  intro hr
  obtain ⟨_, ot, hot, hall⟩ := mem_ready.1 hr
  have h1 := List.all_eq_true.1 h t (List.mem_range.2 (Array.getElem?_eq_some_iff.1 hot).1)
  rw [ht, Bool.false_or] at h1
  have h2 := List.all_eq_true.1 h1 i hi
  have h3 := anc_listed hcl ops.size t i ot hot hall h2
  rw [getD_both hu] at h3
  cases h3

/-- a plain move -/
def pureAt (ops : Array Oper) (k : Nat) : Bool :=
  match ops[k]? with
  | some o => o.guard.isNone && match o.op with | .move _ => true | .extract _ _ => true | _ => false
  | none => false
/-- a plain move, guarded or not -/
def pureG (ops : Array Oper) (k : Nat) : Bool :=
  match ops[k]? with
  | some o => match o.op with | .move _ => true | .extract _ _ => true | _ => false
  | none => false

theorem exec_pure {o : Oper} {ρ : Operand → Value} (h : (match o.op with | .move _ => true | .extract _ _ => true | _ => false) = true) :
    (∃ v, execOp ρ o = .pure (.value v)) ∨ (∃ x, execOp ρ o = .halt (.stuck x)) := by
  unfold execOp
  split at h
  · rename_i x ho
    rw [ho]; exact .inl ⟨_, rfl⟩
  · rename_i x ix ho
    rw [ho]
    simp only [Instr.extract]
    split
    · rename_i vs _
      cases hv : vs[ix]? with
      | some v => exact .inl ⟨v, rfl⟩
      | none => exact .inr ⟨_, rfl⟩
    · exact .inr ⟨_, rfl⟩
  · cases h

/-- the operations of these numbers -/
def opsAt (ops : Array Oper) : List Nat → List Oper
  | [] => []
  | k :: ks => (ops[k]?).toList ++ opsAt ops ks

/-- the tail, in the order ks: each operation is the only one that may come up, or a plain move apart from the others -/
def tlB (md : Region.Mode) (ops : Array Oper) : List Nat → Array Bool → Bool
  | [], listed => (Region.ready md ops listed).isEmpty
  | k :: ks, listed => (ops[k]?).isSome && (decide (Region.ready md ops listed = [k]) || (pureG ops k && (Region.ready md ops listed).contains k && Region.free md ops listed k)) && tlB md ops ks (listed.setIfInBounds k true)

theorem opsAt_cons {k : Nat} {ks : List Nat} {o : Oper} (h : ops[k]? = some o) : opsAt ops (k :: ks) = o :: opsAt ops ks := by simp [opsAt, h]

theorem wpAny_of_tl {Q : Exit → Act → World → Prop} (hs : Region.noSelect ops = true) (hQ : PanOk Q) : ∀ (ks : List Nat) (listed : Array Bool) (a : Act) (w : World),
    tlB md ops ks listed = true → wpList P ops Q (opsAt ops ks) a w → wpAny P md ops Q ks.length listed a w
  | [], listed, a, w, hB, h => ⟨by simpa [tlB] using hB, h⟩
  | k :: ks, listed, a, w, hB, h => by
    simp only [tlB, Bool.and_eq_true, Bool.or_eq_true, decide_eq_true_eq] at hB
    obtain ⟨⟨hsm, hB1⟩, hB2⟩ := hB
    obtain ⟨o, h0⟩ := Option.isSome_iff_exists.1 hsm
    rw [opsAt_cons h0] at h
    have plain : Region.ready md ops listed = [k] → wpAny P md ops Q (ks.length + 1) listed a w := fun hr => by
      refine ⟨fun h1 => (by rw [hr] at h1; cases h1), fun i hi => ?_⟩
      rw [hr] at hi
      obtain rfl : i = k := by simpa using hi
      have hw : wpOp P ops Q i (wpList P ops Q (opsAt ops ks)) a w := by unfold wpOp; simp only [h0]; exact h
      exact wpOp_mono (fun a' w' h' => wpAny_of_tl hs hQ ks _ a' w' hB2 h') hw
    rcases hB1 with hr | ⟨⟨hp, hr⟩, hf⟩
    · exact plain hr
    · unfold pureG at hp
      simp only [h0] at hp
      unfold wpList at h
      by_cases hw : Region.wanted o (yielded ops a.tmps) = true
      case neg =>
        rw [if_neg hw] at h
        have hy : Yields P ops o undef a := .inr ⟨by simpa using hw, rfl⟩
        exact wpAny_first h0 (Region.noSelect_spec hs) (fun c a' w' hq => hQ c _ _ w' (by cases o.dst <;> rfl) hq) ks.length listed a w (Region.free_spec h0 hf) (by simpa using hr) hy (wpAny_of_tl hs hQ ks _ _ w hB2 h)
      rw [if_pos hw] at h
      rcases exec_pure (ρ := a.eval) hp with ⟨v, hv⟩ | ⟨x, hx⟩
      · have hy : Yields P ops o v a := .inl ⟨hw, fun w' => by rw [hv]; rfl⟩
        have h3 : wpList P ops Q (opsAt ops ks) (a.put o.dst v) w := by
          rcases h with h | h
          · unfold Oper.wp at h; rw [hv] at h; exact h
          · obtain ⟨⟨hm, _⟩, _⟩ := h
            rw [hv] at hm
            simp [Sem.runT] at hm
        exact wpAny_first h0 (Region.noSelect_spec hs) (fun c a' w' hq => hQ c _ _ w' (by cases o.dst <;> rfl) hq) ks.length listed a w (Region.free_spec h0 hf) (by simpa using hr) hy (wpAny_of_tl hs hQ ks _ _ w hB2 h3)
      · exfalso
        rcases h with h | h
        · unfold Oper.wp at h; rw [hx] at h; exact h
        · obtain ⟨⟨hm, _⟩, _⟩ := h
          rw [hx] at hm
          simp [Sem.runT] at hm

/-- nothing of the head may still come up -/
def overB (md : Region.Mode) (ops : Array Oper) (hs : List Nat) (listed : Array Bool) : Bool := (Region.ready md ops listed).all fun j => !hs.contains j

/-- the head in whatever order, then L, the tail being ready in its order -/
def hdQ (P : Program) (md : Region.Mode) (ops : Array Oper) (C : World → Prop) (hs ts : List Nat) (L : Act → Prop) : Nat → Array Bool → Act → Prop
  | 0, listed, a => (overB md ops hs listed = true ∧ tlB md ops ts listed = true) ∧ L a
  | f + 1, listed, a => Region.ready md ops listed ≠ [] ∧ ∀ i ∈ Region.ready md ops listed, hs.contains i = true ∧ qOp P ops C i (hdQ P md ops C hs ts L f (listed.setIfInBounds i true)) a

theorem wpAny_of_hdQ {hs ts : List Nat} {L : Act → Prop} {g : Nat} {Q' : Exit → Act → World → Prop} (hL : ∀ listed a w, C w → tlB md ops ts listed = true → L a → wpAny P md ops Q' g listed a w) :
    ∀ (f : Nat) (listed : Array Bool) (a : Act) (w : World), C w → hdQ P md ops C hs ts L f listed a → wpAny P md ops Q' (f + g) listed a w
  | 0, listed, a, w, hw, h => by rw [Nat.zero_add]; exact hL _ _ _ hw h.1.2 h.2
  | f + 1, listed, a, w, hw, h => by
    rw [show f + 1 + g = (f + g) + 1 by omega]
    exact ⟨fun h0 => absurd h0 h.1, fun i hi => wpOp_of_qOp hw (fun a' w' hw' h' => wpAny_of_hdQ hL f _ a' w' hw' h') (h.2 i hi).2⟩

theorem hdQ_first {hs ts : List Nat} {L : Act → Prop} {i : Nat} {oi : Oper} {v : Value} (hi : ops[i]? = some oi) (hsel : ∀ (j : Nat) (o : Oper) cs b, ops[j]? = some o → o.op ≠ .select cs b) (hd : dirB md ops hs = true) (hin : i ∈ hs) :
    ∀ (f : Nat) (listed : Array Bool) (a : Act), Cl md ops listed →
      (∀ j oj, ops[j]? = some oj → j ≠ i → listed.getD j true = false → (∀ e ∈ oj.after, Region.binds md e = true → e.on ≠ i) → oi.apart ops oj = true) →
      i ∈ Region.ready md ops listed → YieldsIn P ops C oi v a → hdQ P md ops C hs ts L f (listed.setIfInBounds i true) (a.put oi.dst v) → hdQ P md ops C hs ts L (f + 1) listed a := by
  intro f
  induction f with
  | zero =>
    intro listed a hcl _ hr hy H
    have hun := (mem_ready.1 hr).1
    refine ⟨fun h => (by rw [h] at hr; cases hr), fun j hj => ?_⟩
    have hjn : hs.contains j = true := by
      cases hc : hs.contains j with
      | true => rfl
      | false => exact absurd hj (dirB_not hd hcl hc hin hun)
    refine ⟨hjn, ?_⟩
    by_cases hji : j = i
    · subst hji; exact hy.qOp hi H
    · have h5 := List.all_eq_true.1 H.1.1 j (ready_mono hj hji)
      rw [hjn] at h5
      cases h5
  | succ f ih =>
    intro listed a hcl hfree hr hy H
    have hun := (mem_ready.1 hr).1
    refine ⟨fun h => (by rw [h] at hr; cases hr), fun j hj => ?_⟩
    have hjn : hs.contains j = true := by
      cases hc : hs.contains j with
      | true => rfl
      | false => exact absurd hj (dirB_not hd hcl hc hin hun)
    refine ⟨hjn, ?_⟩
    by_cases hji : j = i
    · subst hji; exact hy.qOp hi H
    · have h1 := (H.2 j (ready_mono hj hji)).2
      obtain ⟨hjun, oj, hoj, hall⟩ := mem_ready.1 hj
      have hnot : ∀ e ∈ oj.after, Region.binds md e = true → e.on ≠ i := fun e he hb heq => by
        have h3 := hall e he hb
        rw [heq, getD_both hun] at h3
        cases h3
      have h2 := qOp_put hoj (hfree j oj hoj hji hjun hnot) (fun cs b => hsel i oi cs b hi) (fun cs b => hsel j oj cs b hoj) hy h1
      refine qOp_mono (fun a' h3 => ih (listed.setIfInBounds j true) a' (hcl.set hj) (fun k ok hk hki hku hno => hfree k ok hk hki ?_ hno) (ready_mono hr (Ne.symm hji)) h3.1 ?_) h2
      · by_cases hjk : j = k
        · subst hjk; exact hjun
        · rwa [getD_set_ne true hjk] at hku
      · rw [Array.setIfInBounds_comm _ _ hji]
        exact h3.2

/-- the head comes up in the order ks, each apart from what does not wait for it -/
def headB (md : Region.Mode) (ops : Array Oper) (hs ts : List Nat) : List Nat → Array Bool → Bool
  | [], listed => overB md ops hs listed && tlB md ops ts listed
  | k :: ks, listed => (ops[k]?).isSome && hs.contains k && (Region.ready md ops listed).contains k && Region.free md ops listed k && headB md ops hs ts ks (listed.setIfInBounds k true)

theorem hdQ_lex {hs ts : List Nat} {L : Act → Prop} (hsel : Region.noSelect ops = true) (hd : dirB md ops hs = true) : ∀ (ks : List Nat) (listed : Array Bool) (a : Act), Cl md ops listed →
    headB md ops hs ts ks listed = true → wpQuiet P ops C L (opsAt ops ks) a → hdQ P md ops C hs ts L ks.length listed a
  | [], listed, a, _, hB, h => ⟨by simpa [headB] using hB, h⟩
  | k :: ks, listed, a, hcl, hB, h => by
    simp only [headB, Bool.and_eq_true] at hB
    obtain ⟨⟨⟨⟨hsm, hk⟩, hr⟩, hf⟩, hB'⟩ := hB
    obtain ⟨o, h0⟩ := Option.isSome_iff_exists.1 hsm
    rw [opsAt_cons h0] at h
    have hr' : k ∈ Region.ready md ops listed := by simpa using hr
    have hst : qOp P ops C k (wpQuiet P ops C L (opsAt ops ks)) a := by unfold qOp; simp only [h0]; exact h
    obtain ⟨v, hy, hK⟩ := yieldsIn_of_qOp h0 hst
    exact hdQ_first h0 (Region.noSelect_spec hsel) hd (by simpa using hk) ks.length listed a hcl (Region.free_spec h0 hf) hr' hy (hdQ_lex hsel hd ks _ _ (hcl.set hr') hB' hK)

/-- the Bool that is asked of the region: hs: the head's operations, in an order in which they may come up; ts: the tail's -/
def tailB (ops : Array Oper) (hs ts : List Nat) : Bool :=
  Region.noSelect ops && decide (hs.length + ts.length = ops.size) && dirB .any ops hs && headB .any ops hs ts hs (Array.replicate ops.size false)

theorem wp_region_qt {id : Nat} {Q : Exit → Act → World → Prop} {a : Act} {w : World} {l : List Oper} (hs ts : List Nat) (hm : P.follows .mixedOrders = true) (hB : tailB l.toArray hs ts = true) (hQ : PanOk Q)
    (h : wpQuiet P l.toArray (fun w' => ∃ p : Regrown, w' = grow (redrawn w p.d) p.os) (fun a' => ∀ w', (∃ p : Regrown, w' = grow (redrawn w p.d) p.os) → wpList P l.toArray Q (opsAt l.toArray ts) a' w') (opsAt l.toArray hs) a) :
    (Code.region id l.toArray true).wp P Q a w := by
  simp only [tailB, Bool.and_eq_true, decide_eq_true_eq] at hB
  obtain ⟨⟨⟨hsel, hn⟩, hd⟩, hlex⟩ := hB
  have H := hdQ_lex (md := .any) hsel hd hs _ a (fun j oj _ hl => by rw [getD_replicate_false] at hl; cases hl) hlex h
  refine wp_region_any hm ?_
  have := wpAny_of_hdQ (Q' := Q) (g := ts.length) (fun listed a' w' hC hs hL => wpAny_of_tl (md := .any) (Q := Q) hsel hQ ts listed a' w' hs (hL w' hC)) _ _ _ _
    (show ∃ p : Regrown, { w with drawn := w.drawn + 1 } = grow (redrawn w p.d) p.os from ⟨⟨w.drawn + 1, #[]⟩, by rw [grow_empty]; rfl⟩) H
  rwa [hn] at this
end

/-- a callee's contract that ends in Below, met in a world of the class -/
theorem qt_call {P : Program} {f : FuncId} {args : Array Value} {w : World} {v : Value} (h : ∀ W, Below w.heap.size w W → Calls P f args W fun e w' => e = .returned v ∧ Below W.heap.size W w') (d : Nat) (os : Array Obj) :
    Calls P f args (grow (redrawn w d) os) fun e w'' => e = .returned v ∧ ∃ p : Regrown, w'' = grow (redrawn w p.d) p.os := Calls.regrown_of (h _ (below_regrown w d os))
/-- the world behind the head, as a letter -/
theorem qt_world {w w' : World} (h : ∃ p : Regrown, w' = grow (redrawn w p.d) p.os) : Below w.heap.size w w' := by
  obtain ⟨p, rfl⟩ := h; exact below_regrown w p.d p.os
end Go.Proofs.YtplommmegkdhdaaGreatDoor
