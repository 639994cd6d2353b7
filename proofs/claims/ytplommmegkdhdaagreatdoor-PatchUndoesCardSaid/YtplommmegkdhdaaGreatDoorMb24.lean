/- Contracts of functions and plain laws, joined: Ps2, Str. -/
import Derived.Test.YtplommmegkdhdaaGreatDoorMb16
import Derived.Test.YtplommmegkdhdaaGreatDoorMb17
import Derived.Test.YtplommmegkdhdaaGreatDoorMb18
import Derived.Test.YtplommmegkdhdaaGreatDoorMb22
import Derived.Test.YtplommmegkdhdaaGreatDoorMb23
import Derived.Test.YtplommmegkdhdaaGreatDoorMb11
/- What the law's head needs. -/
namespace Go.Proofs.YtplommmegkdhdaaGreatDoor
open Go.RowKit

def Pat.zero0 : Pat := ⟨0, [], Cla.nul, 0⟩
def pmZ : Pm := ⟨none, 0, none, 0⟩
def parsed (t : List UInt8) : Pat := (parseP t).getD Pat.zero0
def parsedE (t : List UInt8) : Int := if (parseP t).isSome then 0 else 6
theorem patM_zero (w : World) : PatM w Pat.zero0 pmZ := ⟨Seg.nil _ _ _ _ _, by decide, by decide, ⟨Seg.nil _ _ _ _ _, by decide, by decide, by decide⟩⟩
theorem upTo_eq (s : Rs) {m : Int} (hm : 0 ≤ m) : s.upTo m = (((s.upTo m).1.toNat : Int), (s.upTo m).2) := by
  have := upTo_rng s hm
  rw [Int.toNat_of_nonneg this.1]
/-- patch.Parse at every text -/
theorem parse_any (w : World) (hL : Lw w) (t : List UInt8) (ht : t.length ≤ 1000000) (p : Pat) (E : Int) (hp : parsed t = p) (hE : parsedE t = E) :
    Calls Tryz.prog 16 #[.string (bA t)] w fun e w' => (∃ pm, e = .returned (.tuple #[.agg (pL p pm), .int .i64 E]) ∧ PatM w' p pm) ∧ Below w.heap.size w w' := by
  subst hp
  subst hE
  generalize es0 : parseR t = s0
  obtain ⟨kd, s1, e1⟩ : ∃ n r, s0.num = (n, r) := ⟨s0.num.1, s0.num.2, rfl⟩
  obtain ⟨dy, s2, e2⟩ : ∃ n r, s1.num = (n, r) := ⟨s1.num.1, s1.num.2, rfl⟩
  obtain ⟨N, s3, e3⟩ : ∃ (n : Nat) (r : Rs), s2.upTo 400 = ((n : Int), r) := ⟨_, _, upTo_eq s2 (by decide)⟩
  have hN : N ≤ 400 := by have := (upTo_rng s2 (m := 400) (by decide)).2; rw [e3] at this; simp only at this; omega
  obtain ⟨cl, s4, e4⟩ : ∃ l r, Rs.many N s3 = (l, r) := ⟨(Rs.many N s3).1, (Rs.many N s3).2, rfl⟩
  obtain ⟨za, t1, ea⟩ : ∃ n r, s4.num = (n, r) := ⟨s4.num.1, s4.num.2, rfl⟩
  obtain ⟨zb, t2, eb⟩ : ∃ n r, t1.num = (n, r) := ⟨t1.num.1, t1.num.2, rfl⟩
  obtain ⟨zc, t3, ec⟩ : ∃ n r, t2.num = (n, r) := ⟨t2.num.1, t2.num.2, rfl⟩
  obtain ⟨zd, t4, ed⟩ : ∃ n r, t3.num = (n, r) := ⟨t3.num.1, t3.num.2, rfl⟩
  obtain ⟨ze, t5, ee⟩ : ∃ n r, t4.num = (n, r) := ⟨t4.num.1, t4.num.2, rfl⟩
  obtain ⟨zf, s5, ef⟩ : ∃ n r, t5.num = (n, r) := ⟨t5.num.1, t5.num.2, rfl⟩
  obtain ⟨f1, s6, e5⟩ : ∃ n r, s5.upTo 1 = (n, r) := ⟨(s5.upTo 1).1, (s5.upTo 1).2, rfl⟩
  obtain ⟨f2, s7, e6⟩ : ∃ n r, s6.upTo 1 = (n, r) := ⟨(s6.upTo 1).1, (s6.upTo 1).2, rfl⟩
  obtain ⟨zg, u1, eg⟩ : ∃ n r, s7.num = (n, r) := ⟨s7.num.1, s7.num.2, rfl⟩
  obtain ⟨zh, u2, eh⟩ : ∃ n r, u1.num = (n, r) := ⟨u1.num.1, u1.num.2, rfl⟩
  obtain ⟨zi, u3, ei⟩ : ∃ n r, u2.num = (n, r) := ⟨u2.num.1, u2.num.2, rfl⟩
  obtain ⟨zj, u4, ej⟩ : ∃ n r, u3.num = (n, r) := ⟨u3.num.1, u3.num.2, rfl⟩
  obtain ⟨zk, u5, ek⟩ : ∃ n r, u4.num = (n, r) := ⟨u4.num.1, u4.num.2, rfl⟩
  obtain ⟨zl, s8, el⟩ : ∃ n r, u5.num = (n, r) := ⟨u5.num.1, u5.num.2, rfl⟩
  obtain ⟨f3, s9, e8⟩ : ∃ n r, s8.upTo 1 = (n, r) := ⟨(s8.upTo 1).1, (s8.upTo 1).2, rfl⟩
  obtain ⟨M, sa, e9⟩ : ∃ (n : Nat) (r : Rs), s9.upTo 8 = ((n : Int), r) := ⟨_, _, upTo_eq s9 (by decide)⟩
  have hM : M ≤ 8 := by have := (upTo_rng s9 (m := 8) (by decide)).2; rw [e9] at this; simp only at this; omega
  obtain ⟨st, sb, eq⟩ : ∃ l r, Rs.pairs M sa = (l, r) := ⟨(Rs.pairs M sa).1, (Rs.pairs M sa).2, rfl⟩
  have hG : parseG s0 = (⟨kd, cl, ⟨za, zb, zc, zd, st, ze, zf, f1 == 1, f2 == 1, zg, zh, (zi, zj), zk, zl, f3 == 1⟩, dy⟩, sb) := by
    simp only [parseG, Rs.six, e1, e2, e3, Int.toNat_natCast, e4, ea, eb, ec, ed, ee, ef, e5, e6, eg, eh, ei, ej, ek, el, e8, e9, eq]
  have hPP : parseP t = if sb.bad = true ∨ sb.rest ≠ [] then none else some ⟨kd, cl, ⟨za, zb, zc, zd, st, ze, zf, f1 == 1, f2 == 1, zg, zh, (zi, zj), zk, zl, f3 == 1⟩, dy⟩ := by
    unfold parseP
    rw [es0, hG]
  have hzi : I64 zi ∧ I64 zj := by
    have key : ∀ s : Rs, I64 s.num.1 := by
      intro s
      cases h : rd s.rest with
      | none => rw [num_no h]; exact ⟨by decide, by decide⟩
      | some q => obtain ⟨n, t⟩ := q; rw [num_yes h]; exact (rd_some h).2.2
    have h1 := key u2
    have h2 := key u3
    rw [ei] at h1
    rw [ej] at h2
    exact ⟨h1, h2⟩
  have lcl : cl.length = N := by rw [← many_len N s3, e4]
  have lst : st.length = M := by rw [← pairs_len M sa, eq]
  refine (parse_key w hL t ht s0 s1 s2 s3 s4 t1 t2 t3 t4 t5 s5 s6 s7 u1 u2 u3 u4 u5 s8 s9 sa sb kd dy za zb zc zd ze zf zg zh zi zj zk zl f1 f2 f3 N M (f1 == 1) (f2 == 1) (f3 == 1) cl st es0 e1 e2 e3 hN e4 ea eb ec ed ee ef e5 rfl e6 rfl eg eh ei ej ek el e8 rfl e9 hM eq).mono ?_
  rintro e w' ⟨⟨h1, h2⟩, hb⟩
  refine ⟨?_, hb⟩
  unfold parsed parsedE
  rw [hPP]
  by_cases hbad : sb.bad = true ∨ sb.rest ≠ []
  · rw [if_pos hbad, h1 hbad]
    exact ⟨pmZ, rfl, patM_zero w'⟩
  · rw [if_neg hbad]
    obtain ⟨A1, A2, k1, k2, he, q1, q2, q3, q4⟩ := h2 hbad
    exact ⟨⟨A1, k1, A2, k2⟩, he, ⟨q3, by show cl.length ≤ _; omega, q1, ⟨q4, hzi, by show st.length ≤ _; omega, q2⟩⟩⟩
theorem apply_to (c C : Con) (m : Cm) (p : Pat) (pm : Pm) (E : Int) (w : World) (h : Cont w c m) (hp : PatM w p pm) (hE : c.apE p = E) (hC : c.apC p = C) :
    Calls Tryz.prog 12 #[.agg (coA c m), .agg (pL p pm)] w fun e w' => (∃ m', e = .returned (.tuple #[.agg (coA C m'), .int .i64 E]) ∧ Cont w' C m') ∧ Below w.heap.size w w' := by
  subst hE
  subst hC
  exact (apply_any c m p pm w h hp).mono fun e w' ⟨⟨m', h1, h2, _⟩, hb⟩ => ⟨⟨m', h1, h2⟩, hb⟩
theorem kok_nul (w : World) : KOk w ⟨Cla.nul, none, 0⟩ := ⟨Seg.nil _ _ _ _ _, by show I64 0 ∧ I64 0; decide, Nat.zero_le _, Nat.le_refl _⟩
/-- a patch whose only list is a new block of one number -/
theorem patM_one {W : World} {b : Nat} {i : Int} {p : Pat} (h : Blk W b 3 #[.int .i64 i]) (hc : p.cls = [i]) (hn : p.new = Cla.nul) : PatM W p ⟨some ⟨b, 0, none⟩, 1, none, 0⟩ :=
  ⟨by rw [hc]; exact seg_blk (xs := [i]) eI_len h, by rw [hc]; show 1 ≤ 1000000; decide, by rw [hc]; exact Nat.le_refl _, by rw [hn]; exact kok_nul W⟩
theorem patM_oneK {W : World} {b : Nat} {i : Int} {p : Pat} {x : Km} (h : Blk W b 3 #[.int .i64 i]) (hc : p.cls = [i]) (hn : p.new = x.k) (hx : KOk W x) : PatM W p ⟨some ⟨b, 0, none⟩, 1, x.A, x.cap⟩ :=
  ⟨by rw [hc]; exact seg_blk (xs := [i]) eI_len h, by rw [hc]; show 1 ≤ 1000000; decide, by rw [hc]; exact Nat.le_refl _, by rw [hn]; exact hx⟩
theorem patM_add {W : World} {x : Km} (hx : KOk W x) : PatM W (.addq x.k) ⟨none, 0, x.A, x.cap⟩ := ⟨Seg.nil _ _ _ _ _, Nat.zero_le _, Nat.le_refl _, hx⟩
theorem same_to (p q : Pat) (pm qm : Pm) (B : Bool) (w : World) (hp : PatM w p pm) (hq : PatM w q qm) (h : decide (p = q) = B) : Calls Tryz.prog 18 #[.agg (pL p pm), .agg (pL q qm)] w fun e w' => e = .returned (.bool B) ∧ Below w.heap.size w w' := by
  subst h
  exact rpat_any p q pm qm w hp hq
theorem scon_to (a b : Con) (ma mb : Cm) (B : Bool) (w : World) (ha : Cont w a ma) (hb : Cont w b mb) (he : decide (a = b) = B) : Calls Tryz.prog 15 #[.agg (coA a ma), .agg (coA b mb)] w fun e w' => e = .returned (.bool B) ∧ Below w.heap.size w w' := by
  subst he
  exact rcon_any a b ma mb w ha hb
theorem touches_to (c : Con) (m : Cm) (p : Pat) (pm : Pm) (E : Int) (w : World) (h : Cont w c m) (hp : PatM w p pm) (h1 : p.cls.length ≤ 500) (h2 : p.new.start.length ≤ 20) (hE : c.apE p = E) :
    Calls Tryz.prog 13 #[.agg (coA c m), .agg (pL p pm)] w fun e w' => (∃ (A : Option Addr) (k : Nat) (l : List Int), e = .returned (.tuple #[.slice A l.length k, .int .i64 E]) ∧ Seg w' w'.heap.size 1 eI A l ∧ l.length ≤ 1000000 ∧ (E = 0 → (∀ x, x ∈ l ↔ x ∈ c.tch p) ∧ l.Pairwise (· < ·)) ∧ (E ≠ 0 → l = [])) ∧ Below w.heap.size w w' := by
  subst hE
  exact touches_any c m p pm w h hp h1 h2
theorem text_to (w : World) (hL : Lw w) (p : Pat) (pm : Pm) (t : List UInt8) (hp : PatM w p pm) (h1 : p.cls.length ≤ 400) (h2 : p.new.start.length ≤ 8) (hI : ∀ n ∈ p.nums, I64 n) (ht : p.text = t) :
    Calls Tryz.prog 17 #[.agg (pL p pm)] w fun e w' => e = .returned (.string (bA t)) ∧ Below w.heap.size w w' := by
  subst ht
  exact text_any w hL p pm hp h1 h2 hI
theorem con_new {W V : World} {t : TypeId} (h : V = W.alloc (.cells coZ t)) : Blk V W.heap.size t coZ ∧ Below W.heap.size W V := by
  rw [h]
  exact ⟨Blk.new _ _ _, wa1 _ _⟩
theorem list_new {W V : World} {t : TypeId} {cs : Array Value} (h : V = W.alloc (.cells cs t)) : Blk V W.heap.size t cs ∧ Below W.heap.size W V := by
  rw [h]
  exact ⟨Blk.new _ _ _, wa1 _ _⟩
abbrev SgI (w : World) (A : Option Addr) (l : List Int) : Prop := Seg w w.heap.size 1 eI A l
theorem SgI.then_ {w w' : World} {A : Option Addr} {l : List Int} (h : SgI w A l) (hb : Below w.heap.size w w') : SgI w' A l := (Seg.below h hb).more hb.size
theorem apply_off (c C : Con) (m : Cm) (p : Pat) (pm : Pm) (E : Int) (w : World) (h : Cont w c m) (hp : PatM w p pm) (hE : c.apE p = E) (hC : c.apC p = C) :
    Calls Tryz.prog 12 #[.agg (coA c m), .agg (pL p pm)] w fun e w' => (∃ m', e = .returned (.tuple #[.agg (coA C m'), .int .i64 E]) ∧ Cont w' C m' ∧ Off (w.heap.size ≤ ·) C m') ∧ Below w.heap.size w w' := by
  subst hE
  subst hC
  exact apply_any c m p pm w h hp
end Go.Proofs.YtplommmegkdhdaaGreatDoor
/- A region of a function by its number: so that the walk of one region may be a theorem of its own. -/
namespace Go.Proofs.YtplommmegkdhdaaGreatDoor
open Go.RowKit

def findR (n : Nat) : Code → Option Code
  | .region i o d => if i = n then some (.region i o d) else none
  | .seq a b => match findR n a with
    | some c => some c
    | none => findR n b
  | .cond _ a b => match findR n a with
    | some c => some c
    | none => findR n b
  | .block _ a => findR n a
  | .loop a => findR n a
  | .scope a => findR n a
  | _ => none
def atR (f : Func) (n : Nat) : Code := match f.body with
  | some c => match findR n c with
    | some r => r
    | none => .skip
  | none => .skip
theorem wpHB_tk {P : Program} {md : Region.Mode} {ops : Array Oper} {Q : Exit → Act → World → Prop} {S : World → Prop} {hs ts : List Nat} {i : Nat} {oi : Oper} {v : Value} {f : Nat} {listed : Array Bool} {a : Act} {w : World} (hd : dirB md ops hs = true) (hsel : Region.noSelect ops = true) (hQ : PanOk Q) (hi : ops[i]? = some oi)
    (hk : (hs.contains i && Region.free md ops listed i && (Region.ready md ops listed).contains i) = true) (hy : YieldsIf P ops S oi v a) (hS : S w)
    (h : wpHB P md ops Q S hs ts f (listed.setIfInBounds i true) (a.put oi.dst v) w) : wpHB P md ops Q S hs ts (f + 1) listed a w := by
  simp only [Bool.and_eq_true] at hk
  exact wpHB_take hd hsel hQ hi hk.1.1 hk.1.2 hk.2 hy hS h
end Go.Proofs.YtplommmegkdhdaaGreatDoor
