/- Contracts of functions and plain laws, joined: Pz2. -/
import Derived.Test.YtplommmegkdhdaaGreatDoorMb19
import Derived.Test.YtplommmegkdhdaaGreatDoorMb16
import Derived.Test.YtplommmegkdhdaaGreatDoorMb20
import Derived.Lib.SmallJoins
import Derived.Lib.SlBytesConst
/- The walk of patch.Text. -/
namespace Go.Proofs.YtplommmegkdhdaaGreatDoor
open Go.RowKit

structure TxW (w0 W : World) (bp bo bw : Nat) (pc : Array Value) (L : List Int) : Prop where
  o : ∃ sv, Own W w0.heap.size 5 1 eB sv (pword ++ L.flatMap wnum) ∧ Blk W bo 89 #[sv]
  f : Blk W bw 91 #[.func (.func 35) #[] #[.pointer (some ⟨bo, 0, none⟩)]]
  p : Blk W bp 34 pc
  k : Below w0.heap.size w0 W
  n : (pword ++ L.flatMap wnum).length ≤ 5 + 22 * L.length
structure Dt (w0 : World) (bp bo bw : Nat) : Prop where
  o : w0.heap.size ≤ bo
  w : bw ≠ bo
  p : bp ≠ bo
section
variable {w0 W W' : World} {bp bo bw : Nat} {pc : Array Value} {L : List Int}
theorem TxW.then_ (h : TxW w0 W bp bo bw pc L) (hb : Below W.heap.size W W') : TxW w0 W' bp bo bw pc L := by
  obtain ⟨sv, h1, h2⟩ := h.o
  exact ⟨⟨sv, h1.below hb, h2.then_ hb⟩, h.f.then_ hb, h.p.then_ hb, below_then h.k hb, h.n⟩
theorem tx_len (h : (pword ++ L.flatMap wnum).length ≤ 5 + 22 * L.length) {n : Int} (hn : I64 n) : (pword ++ (L ++ [n]).flatMap wnum).length ≤ 5 + 22 * (L ++ [n]).length := by
  have := wnum_len hn
  simp only [List.length_append, List.flatMap_append, List.flatMap_cons, List.flatMap_nil, List.append_nil, List.length_singleton] at h ⊢
  omega
theorem tx_app (L : List Int) (n : Int) : pword ++ (L ++ [n]).flatMap wnum = (pword ++ L.flatMap wnum) ++ wnum n := by simp
theorem TxW.after (h : TxW w0 W bp bo bw pc L) (d : Dt w0 bp bo bw) {n : Int} (hn : I64 n) {e : Ending} (hr : WrR w0 W bo (pword ++ L.flatMap wnum) n e W') : e = .returned (.tuple #[]) ∧ TxW w0 W' bp bo bw pc (L ++ [n]) ∧ Lib.OthersKept 5 (some bo) W W' := by
  obtain ⟨h1, ⟨sv, h2, h3⟩, h4, h5⟩ := hr
  exact ⟨h1, ⟨⟨sv, by rw [tx_app]; exact h2, h3⟩, h.f.others h5 (fun e => d.w (Option.some.inj e)) (by decide), h.p.others h5 (fun e => d.p (Option.some.inj e)) (by decide), h4, tx_len h.n hn⟩, h5⟩
theorem TxW.wr (h : TxW w0 W bp bo bw pc L) (d : Dt w0 bp bo bw) (hT : Lib.TabBelow Tryz.prog w0.heap.size w0 "internal/strconv.uint64pow10" .u64 Lib.pow10Tab) {n : Int} (hn : I64 n) (hl : L.length ≤ 40000) :
    Calls Tryz.prog 35 #[.int .i64 n, .pointer (some ⟨bo, 0, none⟩)] W fun e w' => e = .returned (.tuple #[]) ∧ TxW w0 w' bp bo bw pc (L ++ [n]) ∧ Lib.OthersKept 5 (some bo) W w' := by
  obtain ⟨sv, h1, h2⟩ := h.o
  exact (write_own w0 W hT n hn bo d.o sv _ h2 h1 (by have := h.n; omega) h.k).mono fun e w' hr => h.after d hn hr
theorem TxW.fl (h : TxW w0 W bp bo bw pc L) (d : Dt w0 bp bo bw) (hT : Lib.TabBelow Tryz.prog w0.heap.size w0 "internal/strconv.uint64pow10" .u64 Lib.pow10Tab) (b : Bool) (hl : L.length ≤ 40000) :
    Calls Tryz.prog 37 #[.bool b, .pointer (some ⟨bw, 0, none⟩)] W fun e w' => e = .returned (.tuple #[]) ∧ TxW w0 w' bp bo bw pc (L ++ [bitI b]) ∧ Lib.OthersKept 5 (some bo) W w' := by
  obtain ⟨sv, h1, h2⟩ := h.o
  exact (flag_own w0 W hT b bo bw d.o sv _ h2 h.f h1 (by have := h.n; omega) h.k).mono fun e w' hr => h.after d (bit_I64 b) hr
theorem pre_take {α : Type} {l : List α} {i : Nat} {x : α} (h : l[i]? = some x) (L : List α) : L ++ l.take (i + 1) = (L ++ l.take i) ++ [x] := by
  rw [List.take_add_one, h, List.append_assoc]; rfl
theorem prs_take {l : List (Int × Int)} {i : Nat} {x : Int × Int} (h : l[i]? = some x) (L : List Int) : L ++ prsI (l.take (i + 1)) = ((L ++ prsI (l.take i)) ++ [x.1]) ++ [x.2] := by
  unfold prsI
  rw [List.take_add_one, h, List.flatMap_append]
  simp
theorem strNums (l : List UInt8) : (strOfNums (l.map fun x => (x.toNat : Int))).data.toList = (bA l).data.toList := by
  rw [strOfNums_data, List.map_map]
  show _ = l
  conv => rhs; rw [← List.map_id l]
  apply List.map_congr_left
  intro x _
  simp
/-- bytes that lie in a row, as a text -/
theorem conv_bytes {P : Program} (w : World) (t e d : TypeId) (ht : P.underlying t = some (.slice e)) (he : P.underlying e = some (.int .u8)) (hd : P.underlying d = some .string) {B : Nat} {v : Value} {l : List UInt8} (h : Own w B e 1 eB v l) (hne : l ≠ []) :
    (Go.convert t d v).run P w = .ok (.string (bA l)) w := by
  obtain ⟨A, c, rfl, hc, hs⟩ := h.seg eB_len
  obtain ⟨b, off, rfl, hb⟩ := hs.some_ (List.length_pos_iff.2 hne)
  have := run_convert_bytes_arg (P := P) w t e ht he b off l.length c (l.map fun x => (x.toNat : Int)) (by simp) (fun i hi => by
    obtain ⟨b', off', e', _, hx⟩ := hs i l[i] (List.getElem?_eq_getElem hi)
    injection e' with e'
    injection e' with e1 e2
    rw [e1, e2]
    have h1 := hx 0 (.int .u8 (l[i].toNat : Int)) rfl
    rw [Nat.mul_one, Nat.add_zero] at h1
    rw [h1]
    simp [List.getD, List.getElem?_map, List.getElem?_eq_getElem hi]) d hd
  rw [this]
  congr 2
  apply ByteArray.ext
  apply Array.toList_inj.1
  exact strNums l
end
theorem prs_len (l : List (Int × Int)) : (prsI l).length = 2 * l.length := by
  induction l with
  | nil => rfl
  | cons a l ih => show ([a.1, a.2] ++ prsI l).length = _; simp [ih]; omega
def firstR : Code → Nat
  | .region i _ _ => i
  | .seq a _ => firstR a
  | .block _ a => firstR a
  | .loop a => firstR a
  | .scope a => firstR a
  | _ => 0
def findB (n : Nat) : Code → Option Code
  | .seq a b => match findB n a with
    | some c => some c
    | none => findB n b
  | .cond _ a b => match findB n a with
    | some c => some c
    | none => findB n b
  | .block _ a => findB n a
  | .loop a => if firstR a = n then some (.loop a) else findB n a
  | .scope a => findB n a
  | _ => none
/-- the loop of a function that begins with this region -/
def atB (f : Func) (n : Nat) : Code := match f.body with
  | some c => match findB n c with
    | some r => r
    | none => .skip
  | none => .skip
set_option maxRecDepth 100000 in
set_option maxHeartbeats 6400000 in
theorem six_a {K : Act → World → Prop} {Q : Exit → Act → World → Prop} (w0 W0 : World) (bp bo bw q : Nat) (pc : Array Value) (L : List Int) (a b c d e f : Int) (DT : Hid (Dt w0 bp bo bw)) (HT : Hid (Lib.TabBelow Tryz.prog w0.heap.size w0 "internal/strconv.uint64pow10" .u64 Lib.pow10Tab)) (Ia : Hid (I64 a)) (Ib : Hid (I64 b)) (Ic : Hid (I64 c)) (Id : Hid (I64 d)) (Ie : Hid (I64 e)) (If : Hid (I64 f)) (hl : L.length ≤ 30000) (h : TxW w0 W0 bp bo bw pc L) (hq : Blk W0 q 3 #[.int .i64 a, .int .i64 b, .int .i64 c, .int .i64 d, .int .i64 e, .int .i64 f]) (hqo : q ≠ bo) {x0 x1 x2 x3 x5 x6 x7 x8 x9 x10 x11 x12 x13 x14 x15 x16 x17 x18 x19 x20 x21 x22 x23 x24 x25 x26 x27 x28 x29 x30 x31 x32 x33 x34 x35 x36 x37 x38 x39 x40 x41 x42 x43 x44 x45 x46 x47 x48 x49 x50 x51 x52 x53 x54 x55 x56 x57 x58 x59 x60 x61 x62 x63 x64 x65 x66 x67 x71 x72 x73 x74 x75 x76 x77 x78 x79 x80 x81 x82 x83 x84 x85 x86 x87 x88 x89 x90 x91 x92 x93 x94 x95 x96 x97 x98 x99 x100 x101 x102 x103 x104 x105 x106 x107 x108 x109 x110 x111 x112 x113 x114 x115 x116 x117 x118 x119 x120 x121 x122 x123 x124 x125 x126 x127 x128 x129 x130 x131 x132 x133 x134 x135 x136 : Value}
    (hdone : ∀ (v10 v70 v71 v72 v73 v74 v75 v76 v77 : Value) (W : World), TxW w0 W bp bo bw pc ((((((L ++ [a]) ++ [b]) ++ [c]) ++ [d]) ++ [e]) ++ [f]) → Lib.OthersKept 5 (some bo) W0 W → K ⟨#[x0, x1, x2, x3, .pointer (some ⟨bw, 0, none⟩), x5, x6, x7, x8, x9, v10, x11, x12, x13, x14, x15, x16, x17, x18, x19, x20, x21, x22, x23, x24, x25, x26, x27, x28, x29, x30, x31, x32, x33, x34, x35, x36, x37, x38, x39, x40, x41, x42, x43, x44, x45, x46, x47, x48, x49, x50, x51, x52, x53, x54, x55, x56, x57, x58, x59, x60, x61, x62, x63, x64, x65, x66, x67, .slice (some ⟨q, 0, none⟩) 6 6, .int .i64 6, v70, v71, v72, v73, v74, v75, v76, v77, x78, x79, x80, x81, x82, x83, x84, x85, x86, x87, x88, x89, x90, x91, x92, x93, x94, x95, x96, x97, x98, x99, x100, x101, x102, x103, x104, x105, x106, x107, x108, x109, x110, x111, x112, x113, x114, x115, x116, x117, x118, x119, x120, x121, x122, x123, x124, x125, x126, x127, x128, x129, x130, x131, x132, x133, x134, x135, x136], []⟩ W) :
    (atB Tryz.f17 16).wp Tryz.prog (Exit.inBlock 2 (Exit.then K Q)) ⟨#[x0, x1, x2, x3, .pointer (some ⟨bw, 0, none⟩), x5, x6, x7, x8, x9, x10, x11, x12, x13, x14, x15, x16, x17, x18, x19, x20, x21, x22, x23, x24, x25, x26, x27, x28, x29, x30, x31, x32, x33, x34, x35, x36, x37, x38, x39, x40, x41, x42, x43, x44, x45, x46, x47, x48, x49, x50, x51, x52, x53, x54, x55, x56, x57, x58, x59, x60, x61, x62, x63, x64, x65, x66, x67, .slice (some ⟨q, 0, none⟩) 6 6, .int .i64 6, .int .i64 0, x71, x72, x73, x74, x75, x76, x77, x78, x79, x80, x81, x82, x83, x84, x85, x86, x87, x88, x89, x90, x91, x92, x93, x94, x95, x96, x97, x98, x99, x100, x101, x102, x103, x104, x105, x106, x107, x108, x109, x110, x111, x112, x113, x114, x115, x116, x117, x118, x119, x120, x121, x122, x123, x124, x125, x126, x127, x128, x129, x130, x131, x132, x133, x134, x135, x136], []⟩ W0 := by
  conv => { arg 2; whnf }
  dsimp only
  have HS0 : Hid (TxW w0 W0 bp bo bw pc L ∧ Blk W0 q 3 #[.int .i64 a, .int .i64 b, .int .i64 c, .int .i64 d, .int .i64 e, .int .i64 f] ∧ Lib.OthersKept 5 (some bo) W0 W0) := ⟨h, hq, Lib.OthersKept.refl _ _ _⟩
  have HD := Lib.hid hdone
  have HQO := Lib.hid hqo
  clear h hq hdone hqo
  go_loopw [10, 70] (fun x y WR => (y = .int .i64 0 ∧ Hid (TxW w0 WR bp bo bw pc L ∧ Blk WR q 3 #[.int .i64 a, .int .i64 b, .int .i64 c, .int .i64 d, .int .i64 e, .int .i64 f] ∧ Lib.OthersKept 5 (some bo) W0 WR)) ∨ (y = .int .i64 1 ∧ Hid (TxW w0 WR bp bo bw pc (L ++ [a]) ∧ Blk WR q 3 #[.int .i64 a, .int .i64 b, .int .i64 c, .int .i64 d, .int .i64 e, .int .i64 f] ∧ Lib.OthersKept 5 (some bo) W0 WR)) ∨ (y = .int .i64 2 ∧ Hid (TxW w0 WR bp bo bw pc ((L ++ [a]) ++ [b]) ∧ Blk WR q 3 #[.int .i64 a, .int .i64 b, .int .i64 c, .int .i64 d, .int .i64 e, .int .i64 f] ∧ Lib.OthersKept 5 (some bo) W0 WR)) ∨ (y = .int .i64 3 ∧ Hid (TxW w0 WR bp bo bw pc (((L ++ [a]) ++ [b]) ++ [c]) ∧ Blk WR q 3 #[.int .i64 a, .int .i64 b, .int .i64 c, .int .i64 d, .int .i64 e, .int .i64 f] ∧ Lib.OthersKept 5 (some bo) W0 WR)) ∨ (y = .int .i64 4 ∧ Hid (TxW w0 WR bp bo bw pc ((((L ++ [a]) ++ [b]) ++ [c]) ++ [d]) ∧ Blk WR q 3 #[.int .i64 a, .int .i64 b, .int .i64 c, .int .i64 d, .int .i64 e, .int .i64 f] ∧ Lib.OthersKept 5 (some bo) W0 WR)) ∨ (y = .int .i64 5 ∧ Hid (TxW w0 WR bp bo bw pc (((((L ++ [a]) ++ [b]) ++ [c]) ++ [d]) ++ [e]) ∧ Blk WR q 3 #[.int .i64 a, .int .i64 b, .int .i64 c, .int .i64 d, .int .i64 e, .int .i64 f] ∧ Lib.OthersKept 5 (some bo) W0 WR)) ∨ (y = .int .i64 6 ∧ Hid (TxW w0 WR bp bo bw pc ((((((L ++ [a]) ++ [b]) ++ [c]) ++ [d]) ++ [e]) ++ [f]) ∧ Blk WR q 3 #[.int .i64 a, .int .i64 b, .int .i64 c, .int .i64 d, .int .i64 e, .int .i64 f] ∧ Lib.OthersKept 5 (some bo) W0 WR))) (fun _ y _ => 100 - (intOf y).toNat)
  case atStart => exact .inl ⟨rfl, HS0⟩
  case round =>
    clear HS0
    rcases hrel with ⟨rfl, HS⟩ | ⟨rfl, HS⟩ | ⟨rfl, HS⟩ | ⟨rfl, HS⟩ | ⟨rfl, HS⟩ | ⟨rfl, HS⟩ | ⟨rfl, HS⟩
    · have cq : wr.cell? ⟨q, 0, none⟩ = some (.int .i64 a) := HS.out.2.1.cell 0
      have cw : wr.cell? ⟨bw, 0, none⟩ = some (.func (.func 35) #[] #[.pointer (some ⟨bo, 0, none⟩)]) := HS.out.1.f.cell 0
      go_wp2_with (go_at_call 35; (with_reducible refine (HS.out.1.wr DT.out HT.out Ia.out (by (try simp only [List.length_append, List.length_singleton]); omega)).mono ?_); rintro e w1 ⟨rfl, hT1, hk1⟩)
      first | exact ⟨.inr (.inl ⟨rfl, ⟨hT1, Blk.others HS.out.2.1 hk1 (fun e => HQO.out (Option.some.inj e)) (by decide), HS.out.2.2.trans hk1⟩⟩), by simp [intOf]⟩ | (go_roundw; (case rel => exact .inr (.inl ⟨rfl, ⟨hT1, Blk.others HS.out.2.1 hk1 (fun e => HQO.out (Option.some.inj e)) (by decide), HS.out.2.2.trans hk1⟩⟩)); (case measure => simp [intOf]))
    · have cq : wr.cell? ⟨q, 1, none⟩ = some (.int .i64 b) := HS.out.2.1.cell 1
      have cw : wr.cell? ⟨bw, 0, none⟩ = some (.func (.func 35) #[] #[.pointer (some ⟨bo, 0, none⟩)]) := HS.out.1.f.cell 0
      go_wp2_with (go_at_call 35; (with_reducible refine (HS.out.1.wr DT.out HT.out Ib.out (by (try simp only [List.length_append, List.length_singleton]); omega)).mono ?_); rintro e w1 ⟨rfl, hT1, hk1⟩)
      first | exact ⟨.inr (.inr (.inl ⟨rfl, ⟨hT1, Blk.others HS.out.2.1 hk1 (fun e => HQO.out (Option.some.inj e)) (by decide), HS.out.2.2.trans hk1⟩⟩)), by simp [intOf]⟩ | (go_roundw; (case rel => exact .inr (.inr (.inl ⟨rfl, ⟨hT1, Blk.others HS.out.2.1 hk1 (fun e => HQO.out (Option.some.inj e)) (by decide), HS.out.2.2.trans hk1⟩⟩))); (case measure => simp [intOf]))
    · have cq : wr.cell? ⟨q, 2, none⟩ = some (.int .i64 c) := HS.out.2.1.cell 2
      have cw : wr.cell? ⟨bw, 0, none⟩ = some (.func (.func 35) #[] #[.pointer (some ⟨bo, 0, none⟩)]) := HS.out.1.f.cell 0
      go_wp2_with (go_at_call 35; (with_reducible refine (HS.out.1.wr DT.out HT.out Ic.out (by (try simp only [List.length_append, List.length_singleton]); omega)).mono ?_); rintro e w1 ⟨rfl, hT1, hk1⟩)
      first | exact ⟨.inr (.inr (.inr (.inl ⟨rfl, ⟨hT1, Blk.others HS.out.2.1 hk1 (fun e => HQO.out (Option.some.inj e)) (by decide), HS.out.2.2.trans hk1⟩⟩))), by simp [intOf]⟩ | (go_roundw; (case rel => exact .inr (.inr (.inr (.inl ⟨rfl, ⟨hT1, Blk.others HS.out.2.1 hk1 (fun e => HQO.out (Option.some.inj e)) (by decide), HS.out.2.2.trans hk1⟩⟩)))); (case measure => simp [intOf]))
    · have cq : wr.cell? ⟨q, 3, none⟩ = some (.int .i64 d) := HS.out.2.1.cell 3
      have cw : wr.cell? ⟨bw, 0, none⟩ = some (.func (.func 35) #[] #[.pointer (some ⟨bo, 0, none⟩)]) := HS.out.1.f.cell 0
      go_wp2_with (go_at_call 35; (with_reducible refine (HS.out.1.wr DT.out HT.out Id.out (by (try simp only [List.length_append, List.length_singleton]); omega)).mono ?_); rintro e w1 ⟨rfl, hT1, hk1⟩)
      first | exact ⟨.inr (.inr (.inr (.inr (.inl ⟨rfl, ⟨hT1, Blk.others HS.out.2.1 hk1 (fun e => HQO.out (Option.some.inj e)) (by decide), HS.out.2.2.trans hk1⟩⟩)))), by simp [intOf]⟩ | (go_roundw; (case rel => exact .inr (.inr (.inr (.inr (.inl ⟨rfl, ⟨hT1, Blk.others HS.out.2.1 hk1 (fun e => HQO.out (Option.some.inj e)) (by decide), HS.out.2.2.trans hk1⟩⟩))))); (case measure => simp [intOf]))
    · have cq : wr.cell? ⟨q, 4, none⟩ = some (.int .i64 e) := HS.out.2.1.cell 4
      have cw : wr.cell? ⟨bw, 0, none⟩ = some (.func (.func 35) #[] #[.pointer (some ⟨bo, 0, none⟩)]) := HS.out.1.f.cell 0
      go_wp2_with (go_at_call 35; (with_reducible refine (HS.out.1.wr DT.out HT.out Ie.out (by (try simp only [List.length_append, List.length_singleton]); omega)).mono ?_); rintro e w1 ⟨rfl, hT1, hk1⟩)
      first | exact ⟨.inr (.inr (.inr (.inr (.inr (.inl ⟨rfl, ⟨hT1, Blk.others HS.out.2.1 hk1 (fun e => HQO.out (Option.some.inj e)) (by decide), HS.out.2.2.trans hk1⟩⟩))))), by simp [intOf]⟩ | (go_roundw; (case rel => exact .inr (.inr (.inr (.inr (.inr (.inl ⟨rfl, ⟨hT1, Blk.others HS.out.2.1 hk1 (fun e => HQO.out (Option.some.inj e)) (by decide), HS.out.2.2.trans hk1⟩⟩)))))); (case measure => simp [intOf]))
    · have cq : wr.cell? ⟨q, 5, none⟩ = some (.int .i64 f) := HS.out.2.1.cell 5
      have cw : wr.cell? ⟨bw, 0, none⟩ = some (.func (.func 35) #[] #[.pointer (some ⟨bo, 0, none⟩)]) := HS.out.1.f.cell 0
      go_wp2_with (go_at_call 35; (with_reducible refine (HS.out.1.wr DT.out HT.out If.out (by (try simp only [List.length_append, List.length_singleton]); omega)).mono ?_); rintro e w1 ⟨rfl, hT1, hk1⟩)
      first | exact ⟨.inr (.inr (.inr (.inr (.inr (.inr (⟨rfl, ⟨hT1, Blk.others HS.out.2.1 hk1 (fun e => HQO.out (Option.some.inj e)) (by decide), HS.out.2.2.trans hk1⟩⟩)))))), by simp [intOf]⟩ | (go_roundw; (case rel => exact .inr (.inr (.inr (.inr (.inr (.inr (⟨rfl, ⟨hT1, Blk.others HS.out.2.1 hk1 (fun e => HQO.out (Option.some.inj e)) (by decide), HS.out.2.2.trans hk1⟩⟩))))))); (case measure => simp [intOf]))
    · go_wp2
      exact HD.out _ _ _ _ _ _ _ _ _ wr HS.out.1 HS.out.2.2
set_option maxRecDepth 100000 in
set_option maxHeartbeats 6400000 in
theorem six_b {K : Act → World → Prop} {Q : Exit → Act → World → Prop} (w0 W0 : World) (bp bo bw q : Nat) (pc : Array Value) (L : List Int) (a b c d e f : Int) (DT : Hid (Dt w0 bp bo bw)) (HT : Hid (Lib.TabBelow Tryz.prog w0.heap.size w0 "internal/strconv.uint64pow10" .u64 Lib.pow10Tab)) (Ia : Hid (I64 a)) (Ib : Hid (I64 b)) (Ic : Hid (I64 c)) (Id : Hid (I64 d)) (Ie : Hid (I64 e)) (If : Hid (I64 f)) (hl : L.length ≤ 30000) (h : TxW w0 W0 bp bo bw pc L) (hq : Blk W0 q 3 #[.int .i64 a, .int .i64 b, .int .i64 c, .int .i64 d, .int .i64 e, .int .i64 f]) (hqo : q ≠ bo) {x0 x1 x2 x3 x5 x6 x7 x8 x9 x10 x11 x12 x13 x14 x15 x16 x17 x18 x19 x20 x21 x22 x23 x24 x25 x26 x27 x28 x29 x30 x31 x32 x33 x34 x35 x36 x37 x38 x39 x40 x41 x42 x43 x44 x45 x46 x47 x48 x49 x50 x51 x52 x53 x54 x55 x56 x57 x58 x59 x60 x61 x62 x63 x64 x65 x66 x67 x68 x69 x70 x71 x72 x73 x74 x75 x76 x77 x78 x79 x80 x81 x82 x83 x84 x85 x86 x87 x88 x89 x90 x91 x92 x93 x94 x95 x96 x97 x98 x99 x103 x104 x105 x106 x107 x108 x109 x110 x111 x112 x113 x114 x115 x116 x117 x118 x119 x120 x121 x122 x123 x124 x125 x126 x127 x128 x129 x130 x131 x132 x133 x134 x135 x136 : Value}
    (hdone : ∀ (v12 v102 v103 v104 v105 v106 v107 v108 v109 : Value) (W : World), TxW w0 W bp bo bw pc ((((((L ++ [a]) ++ [b]) ++ [c]) ++ [d]) ++ [e]) ++ [f]) → Lib.OthersKept 5 (some bo) W0 W → K ⟨#[x0, x1, x2, x3, .pointer (some ⟨bw, 0, none⟩), x5, x6, x7, x8, x9, x10, x11, v12, x13, x14, x15, x16, x17, x18, x19, x20, x21, x22, x23, x24, x25, x26, x27, x28, x29, x30, x31, x32, x33, x34, x35, x36, x37, x38, x39, x40, x41, x42, x43, x44, x45, x46, x47, x48, x49, x50, x51, x52, x53, x54, x55, x56, x57, x58, x59, x60, x61, x62, x63, x64, x65, x66, x67, x68, x69, x70, x71, x72, x73, x74, x75, x76, x77, x78, x79, x80, x81, x82, x83, x84, x85, x86, x87, x88, x89, x90, x91, x92, x93, x94, x95, x96, x97, x98, x99, .slice (some ⟨q, 0, none⟩) 6 6, .int .i64 6, v102, v103, v104, v105, v106, v107, v108, v109, x110, x111, x112, x113, x114, x115, x116, x117, x118, x119, x120, x121, x122, x123, x124, x125, x126, x127, x128, x129, x130, x131, x132, x133, x134, x135, x136], []⟩ W) :
    (atB Tryz.f17 23).wp Tryz.prog (Exit.inBlock 4 (Exit.then K Q)) ⟨#[x0, x1, x2, x3, .pointer (some ⟨bw, 0, none⟩), x5, x6, x7, x8, x9, x10, x11, x12, x13, x14, x15, x16, x17, x18, x19, x20, x21, x22, x23, x24, x25, x26, x27, x28, x29, x30, x31, x32, x33, x34, x35, x36, x37, x38, x39, x40, x41, x42, x43, x44, x45, x46, x47, x48, x49, x50, x51, x52, x53, x54, x55, x56, x57, x58, x59, x60, x61, x62, x63, x64, x65, x66, x67, x68, x69, x70, x71, x72, x73, x74, x75, x76, x77, x78, x79, x80, x81, x82, x83, x84, x85, x86, x87, x88, x89, x90, x91, x92, x93, x94, x95, x96, x97, x98, x99, .slice (some ⟨q, 0, none⟩) 6 6, .int .i64 6, .int .i64 0, x103, x104, x105, x106, x107, x108, x109, x110, x111, x112, x113, x114, x115, x116, x117, x118, x119, x120, x121, x122, x123, x124, x125, x126, x127, x128, x129, x130, x131, x132, x133, x134, x135, x136], []⟩ W0 := by
  conv => { arg 2; whnf }
  dsimp only
  have HS0 : Hid (TxW w0 W0 bp bo bw pc L ∧ Blk W0 q 3 #[.int .i64 a, .int .i64 b, .int .i64 c, .int .i64 d, .int .i64 e, .int .i64 f] ∧ Lib.OthersKept 5 (some bo) W0 W0) := ⟨h, hq, Lib.OthersKept.refl _ _ _⟩
  have HD := Lib.hid hdone
  have HQO := Lib.hid hqo
  clear h hq hdone hqo
  go_loopw [12, 102] (fun x y WR => (y = .int .i64 0 ∧ Hid (TxW w0 WR bp bo bw pc L ∧ Blk WR q 3 #[.int .i64 a, .int .i64 b, .int .i64 c, .int .i64 d, .int .i64 e, .int .i64 f] ∧ Lib.OthersKept 5 (some bo) W0 WR)) ∨ (y = .int .i64 1 ∧ Hid (TxW w0 WR bp bo bw pc (L ++ [a]) ∧ Blk WR q 3 #[.int .i64 a, .int .i64 b, .int .i64 c, .int .i64 d, .int .i64 e, .int .i64 f] ∧ Lib.OthersKept 5 (some bo) W0 WR)) ∨ (y = .int .i64 2 ∧ Hid (TxW w0 WR bp bo bw pc ((L ++ [a]) ++ [b]) ∧ Blk WR q 3 #[.int .i64 a, .int .i64 b, .int .i64 c, .int .i64 d, .int .i64 e, .int .i64 f] ∧ Lib.OthersKept 5 (some bo) W0 WR)) ∨ (y = .int .i64 3 ∧ Hid (TxW w0 WR bp bo bw pc (((L ++ [a]) ++ [b]) ++ [c]) ∧ Blk WR q 3 #[.int .i64 a, .int .i64 b, .int .i64 c, .int .i64 d, .int .i64 e, .int .i64 f] ∧ Lib.OthersKept 5 (some bo) W0 WR)) ∨ (y = .int .i64 4 ∧ Hid (TxW w0 WR bp bo bw pc ((((L ++ [a]) ++ [b]) ++ [c]) ++ [d]) ∧ Blk WR q 3 #[.int .i64 a, .int .i64 b, .int .i64 c, .int .i64 d, .int .i64 e, .int .i64 f] ∧ Lib.OthersKept 5 (some bo) W0 WR)) ∨ (y = .int .i64 5 ∧ Hid (TxW w0 WR bp bo bw pc (((((L ++ [a]) ++ [b]) ++ [c]) ++ [d]) ++ [e]) ∧ Blk WR q 3 #[.int .i64 a, .int .i64 b, .int .i64 c, .int .i64 d, .int .i64 e, .int .i64 f] ∧ Lib.OthersKept 5 (some bo) W0 WR)) ∨ (y = .int .i64 6 ∧ Hid (TxW w0 WR bp bo bw pc ((((((L ++ [a]) ++ [b]) ++ [c]) ++ [d]) ++ [e]) ++ [f]) ∧ Blk WR q 3 #[.int .i64 a, .int .i64 b, .int .i64 c, .int .i64 d, .int .i64 e, .int .i64 f] ∧ Lib.OthersKept 5 (some bo) W0 WR))) (fun _ y _ => 100 - (intOf y).toNat)
  case atStart => exact .inl ⟨rfl, HS0⟩
  case round =>
    clear HS0
    rcases hrel with ⟨rfl, HS⟩ | ⟨rfl, HS⟩ | ⟨rfl, HS⟩ | ⟨rfl, HS⟩ | ⟨rfl, HS⟩ | ⟨rfl, HS⟩ | ⟨rfl, HS⟩
    · have cq : wr.cell? ⟨q, 0, none⟩ = some (.int .i64 a) := HS.out.2.1.cell 0
      have cw : wr.cell? ⟨bw, 0, none⟩ = some (.func (.func 35) #[] #[.pointer (some ⟨bo, 0, none⟩)]) := HS.out.1.f.cell 0
      go_wp2_with (go_at_call 35; (with_reducible refine (HS.out.1.wr DT.out HT.out Ia.out (by (try simp only [List.length_append, List.length_singleton]); omega)).mono ?_); rintro e w1 ⟨rfl, hT1, hk1⟩)
      first | exact ⟨.inr (.inl ⟨rfl, ⟨hT1, Blk.others HS.out.2.1 hk1 (fun e => HQO.out (Option.some.inj e)) (by decide), HS.out.2.2.trans hk1⟩⟩), by simp [intOf]⟩ | (go_roundw; (case rel => exact .inr (.inl ⟨rfl, ⟨hT1, Blk.others HS.out.2.1 hk1 (fun e => HQO.out (Option.some.inj e)) (by decide), HS.out.2.2.trans hk1⟩⟩)); (case measure => simp [intOf]))
    · have cq : wr.cell? ⟨q, 1, none⟩ = some (.int .i64 b) := HS.out.2.1.cell 1
      have cw : wr.cell? ⟨bw, 0, none⟩ = some (.func (.func 35) #[] #[.pointer (some ⟨bo, 0, none⟩)]) := HS.out.1.f.cell 0
      go_wp2_with (go_at_call 35; (with_reducible refine (HS.out.1.wr DT.out HT.out Ib.out (by (try simp only [List.length_append, List.length_singleton]); omega)).mono ?_); rintro e w1 ⟨rfl, hT1, hk1⟩)
      first | exact ⟨.inr (.inr (.inl ⟨rfl, ⟨hT1, Blk.others HS.out.2.1 hk1 (fun e => HQO.out (Option.some.inj e)) (by decide), HS.out.2.2.trans hk1⟩⟩)), by simp [intOf]⟩ | (go_roundw; (case rel => exact .inr (.inr (.inl ⟨rfl, ⟨hT1, Blk.others HS.out.2.1 hk1 (fun e => HQO.out (Option.some.inj e)) (by decide), HS.out.2.2.trans hk1⟩⟩))); (case measure => simp [intOf]))
    · have cq : wr.cell? ⟨q, 2, none⟩ = some (.int .i64 c) := HS.out.2.1.cell 2
      have cw : wr.cell? ⟨bw, 0, none⟩ = some (.func (.func 35) #[] #[.pointer (some ⟨bo, 0, none⟩)]) := HS.out.1.f.cell 0
      go_wp2_with (go_at_call 35; (with_reducible refine (HS.out.1.wr DT.out HT.out Ic.out (by (try simp only [List.length_append, List.length_singleton]); omega)).mono ?_); rintro e w1 ⟨rfl, hT1, hk1⟩)
      first | exact ⟨.inr (.inr (.inr (.inl ⟨rfl, ⟨hT1, Blk.others HS.out.2.1 hk1 (fun e => HQO.out (Option.some.inj e)) (by decide), HS.out.2.2.trans hk1⟩⟩))), by simp [intOf]⟩ | (go_roundw; (case rel => exact .inr (.inr (.inr (.inl ⟨rfl, ⟨hT1, Blk.others HS.out.2.1 hk1 (fun e => HQO.out (Option.some.inj e)) (by decide), HS.out.2.2.trans hk1⟩⟩)))); (case measure => simp [intOf]))
    · have cq : wr.cell? ⟨q, 3, none⟩ = some (.int .i64 d) := HS.out.2.1.cell 3
      have cw : wr.cell? ⟨bw, 0, none⟩ = some (.func (.func 35) #[] #[.pointer (some ⟨bo, 0, none⟩)]) := HS.out.1.f.cell 0
      go_wp2_with (go_at_call 35; (with_reducible refine (HS.out.1.wr DT.out HT.out Id.out (by (try simp only [List.length_append, List.length_singleton]); omega)).mono ?_); rintro e w1 ⟨rfl, hT1, hk1⟩)
      first | exact ⟨.inr (.inr (.inr (.inr (.inl ⟨rfl, ⟨hT1, Blk.others HS.out.2.1 hk1 (fun e => HQO.out (Option.some.inj e)) (by decide), HS.out.2.2.trans hk1⟩⟩)))), by simp [intOf]⟩ | (go_roundw; (case rel => exact .inr (.inr (.inr (.inr (.inl ⟨rfl, ⟨hT1, Blk.others HS.out.2.1 hk1 (fun e => HQO.out (Option.some.inj e)) (by decide), HS.out.2.2.trans hk1⟩⟩))))); (case measure => simp [intOf]))
    · have cq : wr.cell? ⟨q, 4, none⟩ = some (.int .i64 e) := HS.out.2.1.cell 4
      have cw : wr.cell? ⟨bw, 0, none⟩ = some (.func (.func 35) #[] #[.pointer (some ⟨bo, 0, none⟩)]) := HS.out.1.f.cell 0
      go_wp2_with (go_at_call 35; (with_reducible refine (HS.out.1.wr DT.out HT.out Ie.out (by (try simp only [List.length_append, List.length_singleton]); omega)).mono ?_); rintro e w1 ⟨rfl, hT1, hk1⟩)
      first | exact ⟨.inr (.inr (.inr (.inr (.inr (.inl ⟨rfl, ⟨hT1, Blk.others HS.out.2.1 hk1 (fun e => HQO.out (Option.some.inj e)) (by decide), HS.out.2.2.trans hk1⟩⟩))))), by simp [intOf]⟩ | (go_roundw; (case rel => exact .inr (.inr (.inr (.inr (.inr (.inl ⟨rfl, ⟨hT1, Blk.others HS.out.2.1 hk1 (fun e => HQO.out (Option.some.inj e)) (by decide), HS.out.2.2.trans hk1⟩⟩)))))); (case measure => simp [intOf]))
    · have cq : wr.cell? ⟨q, 5, none⟩ = some (.int .i64 f) := HS.out.2.1.cell 5
      have cw : wr.cell? ⟨bw, 0, none⟩ = some (.func (.func 35) #[] #[.pointer (some ⟨bo, 0, none⟩)]) := HS.out.1.f.cell 0
      go_wp2_with (go_at_call 35; (with_reducible refine (HS.out.1.wr DT.out HT.out If.out (by (try simp only [List.length_append, List.length_singleton]); omega)).mono ?_); rintro e w1 ⟨rfl, hT1, hk1⟩)
      first | exact ⟨.inr (.inr (.inr (.inr (.inr (.inr (⟨rfl, ⟨hT1, Blk.others HS.out.2.1 hk1 (fun e => HQO.out (Option.some.inj e)) (by decide), HS.out.2.2.trans hk1⟩⟩)))))), by simp [intOf]⟩ | (go_roundw; (case rel => exact .inr (.inr (.inr (.inr (.inr (.inr (⟨rfl, ⟨hT1, Blk.others HS.out.2.1 hk1 (fun e => HQO.out (Option.some.inj e)) (by decide), HS.out.2.2.trans hk1⟩⟩))))))); (case measure => simp [intOf]))
    · go_wp2
      exact HD.out _ _ _ _ _ _ _ _ _ wr HS.out.1 HS.out.2.2
end Go.Proofs.YtplommmegkdhdaaGreatDoor
