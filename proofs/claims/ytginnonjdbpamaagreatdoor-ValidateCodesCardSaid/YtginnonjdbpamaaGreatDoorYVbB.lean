/- Texts of states: the reference's Decode, and that it is validate's. No program in sight. -/
import Derived.Test.YtginnonjdbpamaaGreatDoorMc2
import Derived.Test.YtginnonjdbpamaaGreatDoorMc1
namespace Go.Proofs.YtginnonjdbpamaaGreatDoor
def spl (b : UInt8) : List UInt8 → List (List UInt8)
 | [] => [[]]
 | c :: l => if c = b then [] :: spl b l else match spl b l with | [] => [[c]] | p :: ps => (c :: p) :: ps
theorem spl_ne (b : UInt8) : ∀ l, spl b l ≠ []
 | [] => by simp [spl]
 | c :: l => by
  unfold spl
  split
  ·simp
  ·split <;> simp
theorem spl_no {b : UInt8} : ∀ {a : List UInt8}, b ∉ a → spl b a = [a]
 | [], _ => rfl
 | c :: a, h => by
  rw [List.mem_cons, not_or] at h
  unfold spl
  rw [if_neg (Ne.symm h.1), spl_no h.2]
theorem xD0 {b : UInt8} {r : List UInt8} : ∀ {a : List UInt8}, b ∉ a → spl b (a ++ b :: r) = a :: spl b r
 | [], _ => by
  show spl b (b :: r) = _
  rw [spl, if_pos rfl]
 | c :: a, h => by
  rw [List.mem_cons, not_or] at h
  show spl b (c :: (a ++ b :: r)) = _
  rw [spl, if_neg (Ne.symm h.1), xD0 h.2]
def w64 (x : Int) : Int := (x + 9223372036854775808) % 18446744073709551616 - 9223372036854775808
theorem w64_J (x : Int) : J64 (w64 x) := by unfold w64 J64; omega
theorem w64_id {x : Int} (h : J64 x) : w64 x = x := by unfold J64 at h; unfold w64; omega
def Cg (a b : Int) : Prop := a % 18446744073709551616 = b % 18446744073709551616
theorem w64_cg {x y : Int} (h : Cg x y) : w64 x = w64 y := by unfold Cg at h; unfold w64; omega
def numS (s : Int × Bool) (c : UInt8) : Int × Bool := if c = 45 then (s.1, true) else (w64 (w64 (w64 (10 * s.1) + c.toNat) - 48), s.2)
def numR (l : List UInt8) : Int := let s := l.foldl numS (0, false); if s.2 then w64 (0 - s.1) else s.1
theorem numS_J {s : Int × Bool} {c : UInt8} (h : J64 s.1) : J64 (numS s c).1 := by
 unfold numS
 split
 ·exact h
 ·exact w64_J _
theorem fold_J : ∀ (l : List UInt8) {s : Int × Bool}, J64 s.1 → J64 (l.foldl numS s).1
 | [], _, h => h
 | _c :: l, _, h => fold_J l (numS_J h)
theorem xEo (l : List UInt8) : J64 (numR l) := by
 unfold numR
 simp only
 split
 ·exact w64_J _
 ·exact fold_J l ⟨by decide, by decide⟩
theorem fold_dec (u : Nat) (b : Bool) : ((Lib.decDigits u).foldl numS (0, b)).2 = b ∧ Cg ((Lib.decDigits u).foldl numS (0, b)).1 u := by
 have one : ∀ (s : Int × Bool) (k : Nat), k < 10 → (numS s (UInt8.ofNat (48 + k))).2 = s.2 ∧ Cg (numS s (UInt8.ofNat (48 + k))).1 (10 * s.1 + k) := fun s k hk => by
  have hb := xE1 hk
  have hne : UInt8.ofNat (48 + k) ≠ 45 := fun e => by rw [e] at hb; have : (45 : UInt8).toNat = 45 := rfl; omega
  unfold numS
  rw [if_neg hne, hb]
  refine ⟨rfl, ?_⟩
  unfold Cg w64
  simp only
  omega
 induction u using Nat.strongRecOn with
 | _ u ih =>
  rw [Lib.decDigits]
  split
  ·next h =>
   have := one (0, b) u h
   simpa using this
  ·next h =>
   obtain ⟨i1, i2⟩ := ih (u / 10) (by omega)
   rw [List.foldl_append]
   obtain ⟨o1, o2⟩ := one ((Lib.decDigits (u / 10)).foldl numS (0, b)) (u % 10) (by omega)
   refine ⟨o1.trans i1, ?_⟩
   show Cg (numS _ _).1 _
   unfold Cg at o2 i2 ⊢
   omega
theorem xCx {n : Int} (h : J64 n) : numR (Lib.itoa n) = n := by
 unfold numR Lib.itoa
 split
 ·next hn =>
  have e : List.foldl numS (0, false) (45 :: Lib.decDigits n.natAbs) = (Lib.decDigits n.natAbs).foldl numS (0, true) := rfl
  obtain ⟨h1, h2⟩ := fold_dec n.natAbs true
  rw [e]
  simp only [h1, if_true]
  have h3 : Cg (0 - ((Lib.decDigits n.natAbs).foldl numS (0, true)).1) n := by unfold Cg at h2 ⊢; omega
  rw [w64_cg h3, w64_id h]
 ·next hn =>
  obtain ⟨h1, h2⟩ := fold_dec n.toNat false
  have hj := fold_J (Lib.decDigits n.toNat) (s := (0, false)) ⟨by decide, by decide⟩
  simp only [h1, Bool.false_eq_true, if_false]
  have h3 : Cg ((Lib.decDigits n.toNat).foldl numS (0, false)).1 n := by unfold Cg at h2 ⊢; omega
  rw [← w64_id hj, w64_cg h3, w64_id h]
def xDe (t : List UInt8) : Option Mk :=
 match spl 46 t with
 | [a, b, d, e] => some ⟨numR a, numR b, numR d, numR (xCz e).1, (xCz e).2⟩
 | _ => none
def xBt : List (List UInt8) → Option (List Mk)
 | [] => some []
 | t :: l => (xDe t).bind fun m => (xBt l).map (m :: ·)
def decR (t : List UInt8) : Option Sta :=
 match spl 59 t with
 | [a, h, u, m] => (xBt (spl 44 m).dropLast).bind fun ms =>
   let s : Sta := ⟨numR a, (spl 44 h).dropLast.map numR, u.map (· == 49), ms⟩
   if s.text = t then some s else none
 | _ => none
theorem spl_holT : ∀ l : List Int, spl 44 (holT l) = l.map Lib.itoa ++ [[]]
 | [] => rfl
 | m :: l => by
  have e : holT (m :: l) = Lib.itoa m ++ 44 :: holT l := by simp [holT]
  rw [e, xD0 (xI3 _), spl_holT l]
  rfl
theorem holT_59 (l : List Int) : (59 : UInt8) ∉ holT l := by
 unfold holT
 rw [List.mem_flatMap]
 rintro ⟨m, _, h⟩
 rcases List.mem_append.1 h with h | h
 ·exact xG3 _ h
 ·simp at h
def Mk.body (m : Mk) : List UInt8 := Lib.itoa m.st ++ 46 :: (Lib.itoa m.left ++ 46 :: (Lib.itoa m.got ++ 46 :: (Lib.itoa m.brr ++ (if m.pau then [112] else []))))
theorem Mk.text_body (m : Mk) : m.text = m.body ++ [44] := by
 unfold Mk.text Mk.body
 simp only [List.append_assoc, qzE]
theorem pau_no {c : UInt8} (p : Bool) (h : c ≠ 112) : c ∉ (if p then [112] else [] : List UInt8) := by cases p <;> simp [h]
theorem body_no {m : Mk} {c : UInt8} (h1 : c ≠ 45) (h2 : ¬ (48 ≤ c.toNat ∧ c.toNat ≤ 57)) (h3 : c ≠ 46) (h4 : c ≠ 112) : c ∉ m.body := by
 unfold Mk.body
 simp only [List.mem_append, List.mem_cons]
 have := fun n => xEb (n := n) h1 h2
 have := pau_no m.pau h4
 simp_all
theorem markR_body {m : Mk} (h : m.I64) : xDe m.body = some m := by
 unfold xDe Mk.body
 have hl : (46 : UInt8) ∉ Lib.itoa m.brr ++ (if m.pau then [112] else []) := by
  rw [List.mem_append]
  rintro (e | e)
  ·exact xDu _ e
  ·exact pau_no m.pau (by decide) e
 rw [xD0 (xDu _), xD0 (xDu _), xD0 (xDu _), spl_no hl]
 simp only [xH2, xCx h.st, xCx h.left, xCx h.got, xCx h.brr]
theorem spl_mkT : ∀ l : List Mk, spl 44 (mkT l) = l.map Mk.body ++ [[]]
 | [] => rfl
 | m :: l => by
  have e : mkT (m :: l) = m.body ++ 44 :: mkT l := by
   show m.text ++ mkT l = _
   rw [m.text_body]
   simp
  rw [e, xD0 (body_no (by decide) (by decide) (by decide) (by decide)), spl_mkT l]
  rfl
theorem mkT_59 (l : List Mk) : (59 : UInt8) ∉ mkT l := by
 unfold mkT
 rw [List.mem_flatMap]
 rintro ⟨m, _, h⟩
 rw [m.text_body] at h
 rcases List.mem_append.1 h with h | h
 ·exact body_no (by decide) (by decide) (by decide) (by decide) h
 ·simp at h
theorem xFn : ∀ {l : List Mk}, (∀ m ∈ l, m.I64) → xBt (l.map Mk.body) = some l
 | [], _ => rfl
 | m :: l, h => by
  rw [List.map_cons, xBt, markR_body (h m (by simp)), Option.bind_some, xFn fun x hx => h x (List.mem_cons_of_mem _ hx)]
  rfl
theorem decR_text {s : Sta} (h : s.I64) : decR s.text = some s := by
 have e : spl 59 s.text = [Lib.itoa s.day, holT s.hol, useT s.used, mkT s.marks] := by
  unfold Sta.text
  rw [xD0 (xG3 _), xD0 (holT_59 _), xD0 (useT_59 _), spl_no (mkT_59 _)]
 have eu : (useT s.used).map (· == 49) = s.used := by
  have h1 := decU_fwd s.used
  unfold decU at h1
  split at h1
  ·injection h1
  ·cases h1
 have eh : (s.hol.map Lib.itoa).map numR = s.hol := by
  rw [List.map_map]
  conv => rhs; rw [← List.map_id s.hol]
  exact List.map_congr_left fun x hx => xCx (h.hol x hx)
 unfold decR
 rw [e]
 simp only [spl_holT, spl_mkT, List.dropLast_concat, xFn h.marks, Option.bind_some, xCx h.day, eu, eh, if_true]
theorem decR_some {t : List UInt8} {s : Sta} (h : decR t = some s) : s.text = t := by
 unfold decR at h
 split at h
 ·obtain ⟨ms, _, h⟩ := Option.bind_eq_some_iff.1 h
  simp only at h
  split at h
  ·next e => injection h with h; subst h; exact e
  ·cases h
 ·cases h
theorem markR_J {t : List UInt8} {m : Mk} (h : xDe t = some m) : m.I64 := by
 unfold xDe at h
 split at h
 ·injection h with h
  subst h
  exact ⟨xEo _, xEo _, xEo _, xEo _⟩
 ·cases h
theorem xG2 : ∀ {l : List (List UInt8)} {ms : List Mk}, xBt l = some ms → ∀ m ∈ ms, m.I64
 | [], _, h => by cases h; intro m hm; cases hm
 | t :: l, ms, h => by
  rw [xBt] at h
  obtain ⟨m, h1, h⟩ := Option.bind_eq_some_iff.1 h
  obtain ⟨ms', h2, rfl⟩ := Option.map_eq_some_iff.1 h
  intro x hx
  rcases List.mem_cons.1 hx with rfl | hx
  ·exact markR_J h1
  ·exact xG2 h2 x hx
theorem decR_J {t : List UInt8} {s : Sta} (h : decR t = some s) : s.I64 := by
 unfold decR at h
 split at h
 ·obtain ⟨ms, h1, h⟩ := Option.bind_eq_some_iff.1 h
  simp only at h
  split at h
  ·injection h with h
   subst h
   refine ⟨xEo _, fun x hx => ?_, xG2 h1⟩
   obtain ⟨y, _, rfl⟩ := List.mem_map.1 hx
   exact xEo _
  ·cases h
 ·cases h
theorem dec_same (t : List UInt8) : decR t = decV t := by
 cases h : decV t with
 | some s =>
  obtain ⟨rfl, hj⟩ := decV_back h
  exact decR_text hj
 | none =>
  cases h2 : decR t with
  | none => rfl
  | some s =>
   have h3 := decV_text (decR_J h2)
   rw [decR_some h2, h] at h3
   cases h3
end Go.Proofs.YtginnonjdbpamaaGreatDoor
