/- Contracts of functions and plain laws, joined: Wt1, Wt2, Sx, Pk2. -/
import Derived.Test.YtginnonjdbpamaaGreatDoorMc1
import Derived.Test.YtginnonjdbpamaaGreatDoorMc2
import Derived.Test.YtginnonjdbpamaaGreatDoorMc10
import Derived.Lib.OthersKept
import Derived.Lib.AppendIntMem
import Derived.ArgAppend
import Derived.Test.YtginnonjdbpamaaGreatDoorMc4
set_option maxHeartbeats 6400000
set_option maxRecDepth 100000
/- The walk of validate.write: numbers with dots between them, appended to bytes of the call's own. -/
namespace Go.Proofs.YtginnonjdbpamaaGreatDoor
open Go.RowKit
def eY (c : UInt8) : List Value := [.int .u8 c.toNat]
theorem eY_len (c : UInt8) : (eY c).length = 1 := rfl
theorem flat_eY (l : List UInt8) : l.flatMap eY = Lib.byteCells l := by
 induction l with
 | nil => rfl
 | cons c l ih => rw [List.flatMap_cons, ih]; rfl
theorem one_byte (c : UInt8) : ∀ u ∈ eY c, u.oneCell' = true := by
 intro u hu
 simp only [eY, List.mem_cons, List.not_mem_nil, or_false] at hu
 rw [hu]; rfl
theorem zero_u8 : (Tryz.prog.info? 5).map (fun i => (i.zero, i.size, i.bytes)) = some (some (.int .u8 0), 1, 1) := by kernel_rfl
theorem xBq {n : Int} (h : J64 n) : (Lib.itoa n).length ≤ 21 := Lib.itoa_length_le n h.1 h.2
theorem Blk.others {w w' : World} {g : Nat} {t e : TypeId} {cs : Array Value} {b : Option Nat} (h : Blk w g t cs) (k : Lib.OthersKept e b w w') (hb : some g ≠ b) (ht : t ≠ e) : Blk w' g t cs :=
 k g _ h hb fun c fz hc => by injection hc with _ h2 _; exact ht h2
theorem xEw {α : Type} {w : World} {B : Nat} {T : TypeId} {size : Nat} {enc : α → List Value} {v : Value} {xs : List α} (h : Own w B T size enc v xs) : ∀ g, v.ownBlock = some g → ∃ c fz, w.heap[g]? = some (.cells c T fz) := by
 intro g hg
 rcases h.2 with ⟨h5, _⟩ | ⟨g', cap, cur, hv, _, hh, _⟩
 ·rw [h5] at hg; cases hg
 ·rw [hv] at hg
  have e1 : g' = g := Option.some.inj hg
  rw [e1] at hh
  exact ⟨_, _, hh⟩
structure Yb (w0 w W : World) (v : Value) (xs : List UInt8) : Prop where
 o : Own W w0.heap.size 5 1 eY v xs
 b : Below w0.heap.size w0 W
 k : Lib.OthersKept 5 none w W
theorem Yb.blk {w0 w W : World} {v : Value} {xs : List UInt8} (h : Yb w0 w W v xs) {g : Nat} {t : TypeId} {cs : Array Value} (hb : Blk w g t cs) (ht : t ≠ 5) : Blk W g t cs := hb.others h.k (by simp) ht
theorem Yb.alloc {w0 w W : World} {v : Value} {xs : List UInt8} (h : Yb w0 w W v xs) (o : Obj) : Yb w0 w (W.alloc o) v xs := ⟨h.o.alloc _, h.b.alloc h.b.size _, h.k.alloc _⟩
theorem Yb.grown {w0 w W W' : World} {v v' : Value} {xs ys : List UInt8} (h : Yb w0 w W v xs) (ho : Own W' w0.heap.size 5 1 eY v' ys) (hb : Below w0.heap.size W W') (hg : W.grownBy W' v.ownBlock) : Yb w0 w W' v' ys := ⟨ho, h.b.trans hb, h.k.grown hg (xEw h.o)⟩
theorem yb_int (w0 : World) (hT : Lib.TabBelow Tryz.prog w0.heap.size w0 "internal/strconv.uint64pow10" .u64 Lib.pow10Tab) {w W : World} {v : Value} {xs : List UInt8} (h : Yb w0 w W v xs) (hl : xs.length ≤ 900000) (n : Int) (hn : J64 n) :
  Calls Tryz.prog 71 #[v, .int .i64 n, .int .i64 10] W fun e w' => ∃ v', e = .returned v' ∧ Yb w0 w w' v' (xs ++ Lib.itoa n) := by
 have ho : W.ownsRow w0.heap.size 5 1 v xs.length (xs.flatMap eY) := h.o
 refine (Tryz.strconv_AppendInt_10 w0.heap.size xs.length n hn.1 hn.2 v (xs.flatMap eY) W ho h.b.size (by omega) (hT.on h.b)).mono ?_
 rintro e w' ⟨v', rfl, ho', hb', hk'⟩
 refine ⟨v', rfl, ⟨?_, h.b.trans hb', h.k.trans hk'⟩⟩
 unfold Own
 have h1 : (xs ++ Lib.itoa n).length = xs.length + (Lib.itoa n).length := List.length_append
 have h2 : (xs ++ Lib.itoa n).flatMap eY = xs.flatMap eY ++ Lib.byteCells (Lib.itoa n) := by rw [← flat_eY (Lib.itoa n)]; exact List.flatMap_append
 rw [h1, h2]
 exact ho'
def dotT : List Int → List UInt8
 | [] => []
 | n :: l => Lib.itoa n ++ l.flatMap fun m => 46 :: Lib.itoa m
theorem xH8 (l : List Int) (n : Int) : dotT (l ++ [n]) = (if l = [] then [] else dotT l ++ [46]) ++ Lib.itoa n := by
 cases l with
 | nil => simp [dotT]
 | cons a l =>
  rw [if_neg (by simp)]
  simp [dotT]
theorem dotT_len {l : List Int} (h : ∀ n ∈ l, J64 n) : (dotT l).length ≤ 22 * l.length := by
 have key : ∀ l : List Int, (∀ n ∈ l, J64 n) → (l.flatMap fun m => 46 :: Lib.itoa m).length ≤ 22 * l.length := by
  intro l
  induction l with
  | nil => intro _; simp
  | cons a l ih =>
   intro h
   have h1 := xBq (h a (by simp))
   have h2 := ih fun n hn => h n (List.mem_cons_of_mem _ hn)
   simp only [List.flatMap_cons, List.length_append, List.length_cons]
   omega
 cases l with
 | nil => simp [dotT]
 | cons a l =>
  have h1 := xBq (h a (by simp))
  have h2 := key l fun n hn => h n (List.mem_cons_of_mem _ hn)
  simp only [dotT, List.length_append, List.length_cons]
  omega
theorem write_any (w0 : World) (hT : Lib.TabBelow Tryz.prog w0.heap.size w0 "internal/strconv.uint64pow10" .u64 Lib.pow10Tab) (w : World) (v : Value) (xs : List UInt8) (A : Option Addr) (c : Nat) (ns : List Int) (hO : Own w w0.heap.size 5 1 eY v xs) (hB : Below w0.heap.size w0 w) (hl : xs.length ≤ 800000)
  (hA : Seg w w.heap.size 1 eI A ns) (hk : ∀ a, A = some a → ∃ cs, Blk w a.block 3 cs) (hns : ns.length ≤ 4) (hJ : ∀ n ∈ ns, J64 n) :
  Calls Tryz.prog 45 #[v, .slice A ns.length c] w fun e w' => ∃ v', e = .returned v' ∧ Yb w0 w w' v' (xs ++ dotT ns) := by
 obtain ⟨ri, hi, hz0, hz1, hz2⟩ := info_parts zero_u8
 have h0 : Hid (Yb w0 w w v (xs ++ dotT (ns.take 0))) := by
  rw [show xs ++ dotT (ns.take 0) = xs by simp [dotT]]
  exact ⟨hO, hB, Lib.OthersKept.refl _ _ _⟩
 have HA := qzL hA
 have HK := qzL hk
 have HJ := qzL hJ
 have HT := qzL hT
 have lB := hB.size
 clear hO hB hA hJ hT hk
 go_enter Tryz.func45, Tryz.ntmps45
 go_upto_region 2 with (fail)
 go_loopw [0, 9] (fun v y WR => ∃ i : Nat, y = .int .i64 i ∧ i ≤ ns.length ∧ Hid (Yb w0 w WR v (xs ++ dotT (ns.take i)))) (fun _ y _ => 2000 - (intOf y).toNat)
 case atStart => exact ⟨0, rfl, by omega, h0⟩
 case round =>
  clear h0
  obtain ⟨i, rfl, hi', hY⟩ := hrel
  by_cases hlt : i < ns.length
  case neg =>
   obtain rfl : i = ns.length := by omega
   have tl : decide (((ns.length : Nat) : Int) < ((ns.length : Nat) : Int)) = false := qzN (by omega)
   have hf := hY.out
   rw [List.take_length] at hf
   have HF := qzL hf
   clear hf hY
   go_wp2
   go_ret
   exact ⟨_, rfl, HF.out⟩
  have tl : decide ((i : Int) < (ns.length : Int)) = true := qzO (by omega)
  obtain ⟨n, hn⟩ : ∃ n, ns[i]? = some n := ⟨_, qzJ hlt⟩
  have hnJ := qzL (HJ.out n (qzK hn))
  have hA1 : Seg wr wr.heap.size 1 eI A ns := by
   intro k x hx
   obtain ⟨b, off, e, hb, hc⟩ := HA.out k x hx
   obtain ⟨cs, hcs⟩ := HK.out _ e
   have h2 := hY.out.blk hcs (by decide)
   exact ⟨b, off, e, h2.lt, fun j v hv => (World.cell?_of_block (w := w) (w' := wr) (a := ⟨b, off + k * 1 + j, none⟩) (h2.trans hcs.symm)).trans (hc j v hv)⟩
  obtain ⟨b0, o0, eA0, hb0, hc0⟩ := xAx hA1 hn
  have hix := fun W => xAq (t := 22) (size := 1) (cap := c) eA0 hlt (by kernel_rfl) (fun W => by kernel_rfl) W
  have d0 : wr.cell? ⟨b0, o0 + i, none⟩ = some (.int .i64 n) := by simpa using hc0 0 _ rfl
  simp only [Nat.mul_one] at hix
  have hlen : (xs ++ dotT (ns.take i)).length ≤ 800200 := by
   have := dotT_len (l := ns.take i) fun n hn => HJ.out n (List.mem_of_mem_take hn)
   rw [List.length_append]
   rw [List.length_take] at this
   omega
  have hsn : ns.take (i + 1) = ns.take i ++ [n] := by rw [List.take_add_one, hn]; rfl
  have HSN := qzL hsn
  clear hc0 eA0 hA1 hn hsn
  by_cases hz : i = 0
  ·have tz : decide ((0 : Int) < (i : Int)) = false := qzN (by omega)
   have tz' : decide (0 < i) = false := qzN (by omega)
   have hd : Hid ((xs ++ dotT (ns.take i)) ++ Lib.itoa n = xs ++ dotT (ns.take (i + 1))) := by
    unfold Hid
    rw [HSN.out, xH8, hz]
    simp [dotT]
   have HAP := qzL (yb_int w0 HT.out hY.out (by omega) n hnJ.out)
   rw [hd.out] at HAP
   have HZ := qzL hz
   clear hz hd
   go_wp2_with (go_at_call 71; (with_reducible refine HAP.out.mono ?_); rintro e w5 ⟨v5, rfl, hY5⟩; have HY5 := qzL hY5; clear hY5)
   go_roundw
   case rel => exact ⟨i + 1, by simp, by omega, HY5⟩
   case measure => simp [intOf]; omega
  ·have tz : decide ((0 : Int) < (i : Int)) = true := qzO (by omega)
   have tz' : decide (0 < i) = true := qzO (by omega)
   have hd : Hid (((xs ++ dotT (ns.take i)) ++ [46]) ++ Lib.itoa n = xs ++ dotT (ns.take (i + 1))) := by
    unfold Hid
    have hne : ns.take i ≠ [] := fun e => by have := congrArg List.length e; rw [List.length_take, List.length_nil] at this; omega
    rw [HSN.out, xH8, if_neg hne]
    simp
   have HD := hd
   obtain ⟨zs, hzs⟩ : ∃ zs, xs ++ dotT (ns.take i) = zs := ⟨_, rfl⟩
   rw [hzs] at hY hlen HD
   have hg1 : Blk (wr.alloc (.cells #[.int .u8 46] 5)) wr.heap.size 5 #[.int .u8 46] := Blk.new _ _ _
   have HYO := qzL hY.out.o
   have lW : w0.heap.size ≤ wr.heap.size := hY.out.b.size
   clear hz hd hzs
   go_wp2_with (first | (at_builtin; go_loud (refine xA8 _ rfl (.tmp 16) (.tmp 17) _ rfl w0.heap.size 5 ri _ 1 1 Tryz.underlying104 hi hz0 hz1 hz2 rfl (by omega) (by omega) eY eY_len one_byte _ zs rfl (HYO.out.alloc _) (by omega) wr.heap.size 1 (46 : UInt8) rfl hg1 (by simp; omega) ?_); intro v4 w4 hO4 hb4 hg4; have hY4 : Yb w0 w w4 v4 (zs ++ [46]) := (hY.out.alloc _).grown hO4 hb4 hg4; have HAP := qzL (yb_int w0 HT.out hY4 (by rw [List.length_append, List.length_singleton]; omega) n hnJ.out); rw [HD.out] at HAP; clear hY4 hO4 hb4 hg4) | (go_at_call 71; (with_reducible refine HAP.out.mono ?_); rintro e w5 ⟨v5, rfl, hY5⟩; have HY5 := qzL hY5; clear hY5))
   go_roundw
   case rel => exact ⟨i + 1, by simp, by omega, HY5⟩
   case measure => simp [intOf]; omega
end Go.Proofs.YtginnonjdbpamaaGreatDoor
/- The walk of validate.Encode. -/
namespace Go.Proofs.YtginnonjdbpamaaGreatDoor
open Go.RowKit
theorem xC4 {α : Type} {w : World} {g : Nat} {T : TypeId} {size : Nat} {enc : α → List Value} {xs : List α} (he : ∀ x, (enc x).length = size) (h : Blk w g T (xs.flatMap enc).toArray) : Seg w w.heap.size size enc (some ⟨g, 0, none⟩) xs := fun k x hx => by
 refine ⟨g, 0, rfl, h.lt, fun j u hu => ?_⟩
 have hj : j < size := by rw [← he x]; exact (qzM hu).1
 rw [Nat.zero_add, h.cell, qzA, getElem?_flatMap he xs k j x hx hj]
 exact hu
theorem wrN (w0 : World) (hT : Lib.TabBelow Tryz.prog w0.heap.size w0 "internal/strconv.uint64pow10" .u64 Lib.pow10Tab) {w W : World} {v : Value} {xs : List UInt8} (h : Yb w0 w W v xs) (hl : xs.length ≤ 800000) {g c : Nat} (ns : List Int) (hg : Blk W g 3 (ns.flatMap eI).toArray) (hn : ∀ n ∈ ns, J64 n) (h4 : ns.length ≤ 4) :
  Calls Tryz.prog 45 #[v, .slice (some ⟨g, 0, none⟩) ns.length c] W fun e w' => ∃ v', e = .returned v' ∧ Yb w0 w w' v' (xs ++ dotT ns) :=
 (write_any w0 hT W v xs (some ⟨g, 0, none⟩) c ns h.o h.b hl (xC4 xAz hg) (fun a e => by cases e; exact ⟨_, hg⟩) h4 hn).mono fun e w' ⟨v', h1, hY⟩ => ⟨v', h1, hY.o, hY.b, h.k.trans hY.k⟩
theorem wr1 (w0 : World) (hT : Lib.TabBelow Tryz.prog w0.heap.size w0 "internal/strconv.uint64pow10" .u64 Lib.pow10Tab) {w W : World} {v : Value} {xs : List UInt8} (h : Yb w0 w W v xs) (hl : xs.length ≤ 800000) {g c : Nat} (n : Int) (hg : Blk W g 3 #[.int .i64 n]) (hn : J64 n) :
  Calls Tryz.prog 45 #[v, .slice (some ⟨g, 0, none⟩) 1 c] W fun e w' => ∃ v', e = .returned v' ∧ Yb w0 w w' v' (xs ++ Lib.itoa n) := by
 have := wrN w0 hT h hl (c := c) [n] hg (fun x hx => by rw [List.mem_singleton.1 hx]; exact hn) (by simp)
 rwa [show dotT [n] = Lib.itoa n by simp [dotT]] at this
theorem wr4 (w0 : World) (hT : Lib.TabBelow Tryz.prog w0.heap.size w0 "internal/strconv.uint64pow10" .u64 Lib.pow10Tab) {w W : World} {v : Value} {xs : List UInt8} (h : Yb w0 w W v xs) (hl : xs.length ≤ 800000) {g c : Nat} (n1 n2 n3 n4 : Int) (hg : Blk W g 3 #[.int .i64 n1, .int .i64 n2, .int .i64 n3, .int .i64 n4]) (h1 : J64 n1) (h2 : J64 n2) (h3 : J64 n3) (h4 : J64 n4) :
  Calls Tryz.prog 45 #[v, .slice (some ⟨g, 0, none⟩) 4 c] W fun e w' => ∃ v', e = .returned v' ∧ Yb w0 w w' v' (xs ++ dotT [n1, n2, n3, n4]) :=
 wrN w0 hT h hl (c := c) [n1, n2, n3, n4] hg (fun x hx => by simp only [List.mem_cons, List.not_mem_nil, or_false] at hx; rcases hx with rfl | rfl | rfl | rfl <;> assumption) (by simp)
theorem xB1 {w0 w W : World} {ops : Array Oper} {rest : List Oper} {o : Oper} {a : Act} {Q : Exit → Act → World → Prop} (hgd : o.guard = none) (s x : Operand)
  (ho : o.op = .call { callee := .builtin .append, args := #[s, x], argTypes := #[104, 104] }) (v : Value) (xs : List UInt8) (hs : a.eval s = v) (hY : Yb w0 w W v xs) (hl : xs.length ≤ 900000) (g c : Nat) (y : UInt8) (hx : a.eval x = .slice (some ⟨g, 0, none⟩) 1 c)
  (hblk : Blk W g 5 #[.int .u8 y.toNat]) (h : ∀ v' w', Yb w0 w w' v' (xs ++ [y]) → wpList Tryz.prog ops Q rest (a.put o.dst v') w') : wpList Tryz.prog ops Q (o :: rest) a W := by
 obtain ⟨ri, hi, hz0, hz1, hz2⟩ := info_parts zero_u8
 exact xA8 _ hgd s x _ ho w0.heap.size 5 ri _ 1 1 Tryz.underlying104 hi hz0 hz1 hz2 rfl (by omega) (by omega) eY eY_len one_byte v xs hs hY.o (by omega) g c y hx hblk hY.b.size fun v' w' h1 h2 h3 => h v' w' (hY.grown h1 h2 h3)
theorem strNums (l : List UInt8) : (strOfNums (l.map fun x => (x.toNat : Int))).data.toList = l := by
 rw [strOfNums_data, List.map_map]
 conv => rhs; rw [← List.map_id l]
 apply List.map_congr_left
 intro x _
 simp
def tBy (l : List UInt8) : ByteArray := ⟨l.toArray⟩
theorem xBe (l : List UInt8) : (tBy l).size = l.length := by simp [tBy, ByteArray.size]
theorem xDw (l : List UInt8) : (tBy l).data.toList = l := rfl
theorem conv_bytes {P : Program} (w : World) (t e d : TypeId) (ht : P.underlying t = some (.slice e)) (he : P.underlying e = some (.int .u8)) (hd : P.underlying d = some .string) {B : Nat} {v : Value} {l : List UInt8} (h : Own w B e 1 eY v l) (hne : l ≠ []) :
  (Go.convert t d v).run P w = .ok (.string (tBy l)) w := by
 obtain ⟨A, c, rfl, hc, hs⟩ := h.seg eY_len
 obtain ⟨b, off, rfl, hb⟩ := hs.some_ (List.length_pos_iff.2 hne)
 have := run_convert_bytes_arg (P := P) w t e ht he b off l.length c (l.map fun x => (x.toNat : Int)) (by simp) (fun i hi => by
  obtain ⟨b', off', e', _, hx⟩ := hs i l[i] (qzJ hi)
  injection e' with e'
  injection e' with e1 e2
  rw [e1, e2]
  have h1 := hx 0 (.int .u8 (l[i].toNat : Int)) rfl
  rw [Nat.mul_one, Nat.add_zero] at h1
  rw [h1]
  simp [List.getD, List.getElem?_map, qzJ hi]) d hd
 rw [this]
 congr 2
 apply ByteArray.ext
 apply Array.toList_inj.1
 exact strNums l
theorem holT_len {l : List Int} (h : ∀ n ∈ l, J64 n) : (holT l).length ≤ 22 * l.length := by
 induction l with
 | nil => simp [holT]
 | cons a l ih =>
  have h1 := xBq (h a (by simp))
  have h2 := ih fun n hn => h n (List.mem_cons_of_mem _ hn)
  have e : holT (a :: l) = (Lib.itoa a ++ [44]) ++ holT l := rfl
  rw [e]
  simp only [List.length_append, List.length_cons, List.length_nil]
  omega
theorem mkT_len {l : List Mk} (h : ∀ m ∈ l, m.I64) : (mkT l).length ≤ 90 * l.length := by
 induction l with
 | nil => simp [mkT]
 | cons a l ih =>
  have ha := h a (by simp)
  have h1 := xBq ha.st
  have h2 := xBq ha.left
  have h3 := xBq ha.got
  have h4 := xBq ha.brr
  have h5 := ih fun n hn => h n (List.mem_cons_of_mem _ hn)
  have e : mkT (a :: l) = a.text ++ mkT l := rfl
  have h6 : (if a.pau then [112] else [] : List UInt8).length ≤ 1 := by cases a.pau <;> simp
  rw [e]
  unfold Mk.text
  simp only [List.length_append, List.length_cons, List.length_nil]
  omega
theorem dot_mk (m : Mk) : dotT [m.st, m.left, m.got, m.brr] ++ ((if m.pau then [112] else []) ++ [44]) = m.text := by
 unfold Mk.text
 simp [dotT]
theorem Yb.here {w0 w W : World} {v : Value} {xs : List UInt8} (h : Yb w0 w W v xs) : Yb w0 W W v xs := ⟨h.o, h.b, Lib.OthersKept.refl _ _ _⟩
theorem Yb.back {w0 w W W' : World} {v v' : Value} {xs ys : List UInt8} (h : Yb w0 w W v xs) (h' : Yb w0 W W' v' ys) : Yb w0 w W' v' ys := ⟨h'.o, h'.b, h.k.trans h'.k⟩
theorem yb_ne {w0 w W : World} {v : Value} {xs : List UInt8} (h : Yb w0 w W v xs) {g : Nat} {t : TypeId} {cs : Array Value} (hb : Blk w g t cs) (ht : t ≠ 5) (i : Nat) : W.cell? ⟨g, i, none⟩ = cs[i]? := (h.blk hb ht).cell i
theorem xGf (s : Sta) (q : Qm) (w : World) (hT : Lib.TabBelow Tryz.prog w.heap.size w "internal/strconv.uint64pow10" .u64 Lib.pow10Tab) (hS : Stm w s q) (hI : s.I64) (nh : s.hol.length ≤ 5000) (nu : s.used.length ≤ 5000) (nm : s.marks.length ≤ 5000) :
  Calls Tryz.prog 21 #[.agg (stA s q)] w fun e w' => e = .returned (.string (tBy s.text)) ∧ Below w.heap.size w w' := by
 have HS := qzL hS
 have HI := qzL hI
 have HT := qzL hT
 have ld := xBq hI.day
 clear hS hI hT
 go_enter Tryz.func21, Tryz.ntmps21
 go_upto_region 1 with (fail)
 refine xAf ?_
 intro X hX
 have gs : Blk X w.heap.size 43 (stA s q) := by rw [hX]; exact Blk.new _ _ _
 have HB : Hid (Below w.heap.size w X) := by rw [hX]; exact wa1 _ _
 obtain ⟨bs, ebs⟩ : ∃ b, w.heap.size = b := ⟨_, rfl⟩
 have hbs : Hid (w.heap.size = bs) := ebs
 rw [ebs] at gs ⊢
 clear hX ebs
 have GS := qzL gs
 have s0 : X.cell? ⟨bs, 0, none⟩ = some (.int .i64 s.day) := gs.cell 0
 have hY0 : Hid (Yb w X (X.alloc (.cells #[.int .i64 s.day] 3)) (.slice none 0 0) []) := ⟨Own.nil _ _ _ _ _, HB.out.alloc HB.out.size _, (Lib.OthersKept.refl _ _ _).alloc _⟩
 have HW1 := qzL (wr1 w HT.out hY0.out (by simp) (c := 1) s.day (Blk.new X 3 #[.int .i64 s.day]) HI.out.day)
 go_upto_region 2 with (first | (go_at_call 45; (with_reducible refine HW1.out.mono ?_); rintro e w1 ⟨v1, rfl, hY1⟩; have HY1 := qzL hY1; clear hY1) | (at_builtin; go_loud (refine xB1 (w0 := w) (w := X) rfl (.tmp 13) (.tmp 14) rfl _ _ rfl (HY1.out.alloc _) (by rw [qzF]; omega) w1.heap.size 1 59 rfl (Blk.new _ _ _) ?_); intro v2 w2 hY2; have HY2 := qzL hY2; clear hY2))
 obtain ⟨P1, hP1⟩ : ∃ P, ([] : List UInt8) ++ Lib.itoa s.day ++ [59] = P := ⟨_, rfl⟩
 have l1 : P1.length ≤ 30 := by rw [← hP1]; simp only [List.length_append, List.length_cons, List.length_nil]; omega
 have HP1 := qzL hP1
 rw [hP1] at HY2
 clear hP1 HW1 hY0 HY1 s0 gs
 have s1 : w2.cell? ⟨bs, 1, none⟩ = some (.slice q.h s.hol.length q.hc) := yb_ne HY2.out GS.out (by decide) 1
 go_upto_region 3 with (fail)
 clear s1
 go_loopw [3, 19] (fun v y WR => ∃ i : Nat, y = .int .i64 i ∧ i ≤ s.hol.length ∧ Hid (Yb w X WR v (P1 ++ holT (s.hol.take i)))) (fun _ y _ => 20000 - (intOf y).toNat)
 case atStart => exact ⟨0, rfl, by omega, by rw [show P1 ++ holT (s.hol.take 0) = P1 by simp [holT]]; exact HY2⟩
 case round =>
  clear HY2
  obtain ⟨i, rfl, hi', hY⟩ := hrel
  have hlen : (P1 ++ holT (s.hol.take i)).length ≤ 200000 := by
   have := holT_len (l := s.hol.take i) fun n hn => HI.out.hol n (List.mem_of_mem_take hn)
   rw [List.length_append]
   rw [List.length_take] at this
   omega
  by_cases hlt : i < s.hol.length
  case pos =>
   have tl : decide ((i : Int) < (s.hol.length : Int)) = true := qzO (by omega)
   obtain ⟨n, hn⟩ : ∃ n, s.hol[i]? = some n := ⟨_, qzJ hlt⟩
   have hnJ := qzL (HI.out.hol n (qzK hn))
   obtain ⟨b0, o0, eA0, hb0, hc0⟩ := xAx (HS.out.then_ hY.out.b).h hn
   have hix := fun W => xAq (t := 22) (size := 1) (cap := q.hc) eA0 hlt (by kernel_rfl) (fun W => by kernel_rfl) W
   have d0 : wr.cell? ⟨b0, o0 + i, none⟩ = some (.int .i64 n) := by simpa using hc0 0 _ rfl
   simp only [Nat.mul_one] at hix
   have HSN : Hid (((P1 ++ holT (s.hol.take i)) ++ Lib.itoa n) ++ [44] = P1 ++ holT (s.hol.take (i + 1))) := by
    unfold Hid
    rw [List.take_add_one, hn]
    simp [holT]
   obtain ⟨zs, hzs⟩ : ∃ zs, P1 ++ holT (s.hol.take i) = zs := ⟨_, rfl⟩
   rw [hzs] at hY hlen HSN
   have ln := xBq hnJ.out
   have HW1 := qzL (wr1 w HT.out (hY.out.alloc (.cells #[.int .i64 n] 3)) (by omega) (c := 1) n (Blk.new wr 3 #[.int .i64 n]) hnJ.out)
   clear hc0 eA0 hn hzs
   go_wp2_with (first | (go_at_call 45; (with_reducible refine HW1.out.mono ?_); rintro e w1 ⟨v1, rfl, hY1⟩; have HY1 := qzL hY1; clear hY1) | (at_builtin; go_loud (refine xB1 (w0 := w) (w := X) rfl (.tmp 26) (.tmp 27) rfl _ _ rfl (HY1.out.alloc _) (by rw [List.length_append]; omega) w1.heap.size 1 44 rfl (Blk.new _ _ _) ?_); intro v2 w2 hY2; have HY2 := qzL hY2; clear hY2))
   rw [HSN.out] at HY2
   go_roundw
   case rel => exact ⟨i + 1, by simp, by omega, HY2⟩
   case measure => simp [intOf]; omega
  obtain rfl : i = s.hol.length := by omega
  have tl : decide (((s.hol.length : Nat) : Int) < ((s.hol.length : Nat) : Int)) = false := qzN (by omega)
  rw [List.take_length] at hY hlen
  obtain ⟨P2, hP2⟩ : ∃ P, (P1 ++ holT s.hol) ++ [59] = P := ⟨_, rfl⟩
  have HP2 := qzL hP2
  have l2 : P2.length ≤ 200001 := by rw [← hP2, List.length_append, List.length_singleton]; omega
  obtain ⟨zs, hzs⟩ : ∃ zs, P1 ++ holT s.hol = zs := ⟨_, rfl⟩
  rw [hzs] at hY hlen hP2
  clear hzs
  go_upto_region 8 with (at_builtin; go_loud (refine xB1 (w0 := w) (w := X) rfl (.tmp 30) (.tmp 31) rfl _ _ rfl (hY.out.alloc _) (by omega) wr.heap.size 1 59 rfl (Blk.new _ _ _) ?_); intro v3 w3 hY3; have HY3 := qzL hY3; clear hY3)
  rw [hP2] at HY3
  clear hY hlen hP2 tl hlt
  have s2 : w3.cell? ⟨bs, 2, none⟩ = some (.slice q.u s.used.length q.uc) := yb_ne HY3.out GS.out (by decide) 2
  go_upto_region 9 with (fail)
  clear s2
  go_loopw [3, 36] (fun v y WR => ∃ i : Nat, y = .int .i64 i ∧ i ≤ s.used.length ∧ Hid (Yb w X WR v (P2 ++ useT (s.used.take i)))) (fun _ y _ => 20000 - (intOf y).toNat)
  case atStart => exact ⟨0, rfl, by omega, by rw [show P2 ++ useT (s.used.take 0) = P2 by simp [useT]]; exact HY3⟩
  case round =>
   clear HY3
   obtain ⟨i, rfl, hi', hY⟩ := hrel
   have hlen : (P2 ++ useT (s.used.take i)).length ≤ 300000 := by
    unfold useT
    rw [List.length_append, List.length_map, List.length_take]
    omega
   by_cases hlt : i < s.used.length
   case pos =>
    have tl : decide ((i : Int) < (s.used.length : Int)) = true := qzO (by omega)
    obtain ⟨n, hn⟩ : ∃ n, s.used[i]? = some n := ⟨_, qzJ hlt⟩
    obtain ⟨b0, o0, eA0, hb0, hc0⟩ := xAx (HS.out.then_ hY.out.b).u hn
    have hix := fun W => xAq (t := 40) (size := 1) (cap := q.uc) eA0 hlt (by kernel_rfl) (fun W => by kernel_rfl) W
    have d0 : wr.cell? ⟨b0, o0 + i, none⟩ = some (.bool n) := by simpa using hc0 0 _ rfl
    simp only [Nat.mul_one] at hix
    have HSN : Hid ((P2 ++ useT (s.used.take i)) ++ [if n then 49 else 48] = P2 ++ useT (s.used.take (i + 1))) := by
     unfold Hid
     rw [List.take_add_one, hn]
     simp [useT]
    obtain ⟨zs, hzs⟩ : ∃ zs, P2 ++ useT (s.used.take i) = zs := ⟨_, rfl⟩
    rw [hzs] at hY hlen HSN
    clear hc0 eA0 hn hzs
    cases n with
    | true =>
     go_wp2_with (at_builtin; go_loud (refine xB1 (w0 := w) (w := X) rfl (.tmp 41) (.tmp 42) rfl _ _ rfl (hY.out.alloc _) (by omega) wr.heap.size 1 49 rfl (Blk.new _ _ _) ?_); intro v2 w2 hY2; have HY2 := qzL hY2; clear hY2)
     have hsn : zs ++ [49] = P2 ++ useT (s.used.take (i + 1)) := HSN.out
     rw [hsn] at HY2
     clear hsn
     go_roundw
     case rel => exact ⟨i + 1, by simp, by omega, HY2⟩
     case measure => simp [intOf]; omega
    | false =>
     go_wp2_with (at_builtin; go_loud (refine xB1 (w0 := w) (w := X) rfl (.tmp 44) (.tmp 45) rfl _ _ rfl (hY.out.alloc _) (by omega) wr.heap.size 1 48 rfl (Blk.new _ _ _) ?_); intro v2 w2 hY2; have HY2 := qzL hY2; clear hY2)
     have hsn : zs ++ [48] = P2 ++ useT (s.used.take (i + 1)) := HSN.out
     rw [hsn] at HY2
     clear hsn
     go_roundw
     case rel => exact ⟨i + 1, by simp, by omega, HY2⟩
     case measure => simp [intOf]; omega
   obtain rfl : i = s.used.length := by omega
   have tl : decide (((s.used.length : Nat) : Int) < ((s.used.length : Nat) : Int)) = false := qzN (by omega)
   rw [List.take_length] at hY hlen
   obtain ⟨P3, hP3⟩ : ∃ P, (P2 ++ useT s.used) ++ [59] = P := ⟨_, rfl⟩
   have HP3 := qzL hP3
   have l3 : P3.length ≤ 300001 := by rw [← hP3, List.length_append, List.length_singleton]; omega
   obtain ⟨zs, hzs⟩ : ∃ zs, P2 ++ useT s.used = zs := ⟨_, rfl⟩
   rw [hzs] at hY hlen hP3
   clear hzs
   go_upto_region 16 with (at_builtin; go_loud (refine xB1 (w0 := w) (w := X) rfl (.tmp 48) (.tmp 49) rfl _ _ rfl (hY.out.alloc _) (by omega) wr.heap.size 1 59 rfl (Blk.new _ _ _) ?_); intro v3 w3 hY3; have HY3 := qzL hY3; clear hY3)
   rw [hP3] at HY3
   clear hY hlen hP3 tl hlt
   have s3 : w3.cell? ⟨bs, 3, none⟩ = some (.slice q.m s.marks.length q.mc) := yb_ne HY3.out GS.out (by decide) 3
   go_upto_region 17 with (fail)
   clear s3
   go_loopw [3, 54] (fun v y WR => ∃ i : Nat, y = .int .i64 i ∧ i ≤ s.marks.length ∧ Hid (Yb w X WR v (P3 ++ mkT (s.marks.take i)))) (fun _ y _ => 20000 - (intOf y).toNat)
   case atStart => exact ⟨0, rfl, by omega, by rw [show P3 ++ mkT (s.marks.take 0) = P3 by simp [mkT]]; exact HY3⟩
   case round =>
    clear HY3
    obtain ⟨i, rfl, hi', hY⟩ := hrel
    have hlen : (P3 ++ mkT (s.marks.take i)).length ≤ 760000 := by
     have := mkT_len (l := s.marks.take i) fun n hn => HI.out.marks n (List.mem_of_mem_take hn)
     rw [List.length_append]
     rw [List.length_take] at this
     omega
    by_cases hlt : i < s.marks.length
    case pos =>
     have tl : decide ((i : Int) < (s.marks.length : Int)) = true := qzO (by omega)
     obtain ⟨n, hn⟩ : ∃ n, s.marks[i]? = some n := ⟨_, qzJ hlt⟩
     have hnJ := qzL (HI.out.marks n (qzK hn))
     obtain ⟨b0, o0, eA0, hb0, hc0⟩ := xAx (HS.out.then_ hY.out.b).m hn
     have hrg : wr.rangeAt b0 (o0 + i * 5) (mL n) := fun j v hv => hc0 j v hv
     have hix := fun W => xAq (t := 41) (size := 5) (cap := q.mc) eA0 hlt (by kernel_rfl) (fun W => by kernel_rfl) W
     have HSN : Hid (((P3 ++ mkT (s.marks.take i)) ++ dotT [n.st, n.left, n.got, n.brr]) ++ ((if n.pau then [112] else []) ++ [44]) = P3 ++ mkT (s.marks.take (i + 1))) := by
      unfold Hid
      rw [List.append_assoc, dot_mk, List.take_add_one, hn]
      simp [mkT]
     have ln := dotT_len (l := [n.st, n.left, n.got, n.brr]) (fun x hx => by simp only [List.mem_cons, List.not_mem_nil, or_false] at hx; rcases hx with rfl | rfl | rfl | rfl <;> first | exact hnJ.out.st | exact hnJ.out.left | exact hnJ.out.got | exact hnJ.out.brr)
     simp only [List.length_cons, List.length_nil] at ln
     obtain ⟨zs, hzs⟩ : ∃ zs, P3 ++ mkT (s.marks.take i) = zs := ⟨_, rfl⟩
     rw [hzs] at hY hlen HSN
     clear hc0 eA0 hn hzs
     go_upto_region 19 with ((refine xAo 46 elM _ _ _ rfl rfl rfl rfl rfl rfl rfl rfl rfl b0 _ rfl (mL n) rfl hrg (by simp [Value.oneCell']) (by decide) (by simp) (by simp) ?_; simp only [Act.put, qzG, qzH, qzI]))
     refine xAf ?_
     intro V hV
     have gm : Blk V wr.heap.size 46 (mA n) := by rw [hV]; exact Blk.new _ _ _
     have hYV : Hid (Yb w X V u3 zs) := by rw [hV]; exact hY.out.alloc _
     obtain ⟨bm, ebm⟩ : ∃ b, wr.heap.size = b := ⟨_, rfl⟩
     rw [ebm] at gm ⊢
     have GM := qzL gm
     clear hV ebm hrg hix hb0 hY gm
     have m0 : V.cell? ⟨bm, 0, none⟩ = some (.int .i64 n.st) := GM.out.cell 0
     have m1 : V.cell? ⟨bm, 1, none⟩ = some (.int .i64 n.left) := GM.out.cell 1
     have m2 : V.cell? ⟨bm, 2, none⟩ = some (.int .i64 n.got) := GM.out.cell 2
     have m3 : V.cell? ⟨bm, 3, none⟩ = some (.int .i64 n.brr) := GM.out.cell 3
     have HYV := qzL (hYV.out.here)
     have HW4 := qzL (wr4 w HT.out (HYV.out.alloc (.cells #[.int .i64 n.st, .int .i64 n.left, .int .i64 n.got, .int .i64 n.brr] 3)) (by omega) (c := 4) n.st n.left n.got n.brr (Blk.new V 3 #[.int .i64 n.st, .int .i64 n.left, .int .i64 n.got, .int .i64 n.brr]) hnJ.out.st hnJ.out.left hnJ.out.got hnJ.out.brr)
     go_upto_region 20 with (go_at_call 45; (with_reducible refine HW4.out.mono ?_); rintro e w4 ⟨v4, rfl, hY4⟩; have HY4 := qzL hY4; clear hY4)
     obtain ⟨zs4, hz4⟩ : ∃ z, zs ++ dotT [n.st, n.left, n.got, n.brr] = z := ⟨_, rfl⟩
     have l4 : zs4.length ≤ 760088 := by rw [← hz4, List.length_append]; omega
     rw [hz4] at HY4 HSN
     have m4 : w4.cell? ⟨bm, 4, none⟩ = some (.bool n.pau) := (HY4.out.blk GM.out (by decide)).cell 4
     obtain ⟨pv, hpv⟩ : ∃ p, n.pau = p := ⟨_, rfl⟩
     rw [hpv] at HSN m4
     clear HW4 hz4 m0 m1 m2 m3 hpv ln
     cases pv with
     | true =>
      go_upto_region 22 with (at_builtin; go_loud (refine xB1 (w0 := w) (w := V) rfl (.tmp 71) (.tmp 72) rfl _ _ rfl (HY4.out.alloc _) (by omega) w4.heap.size 1 112 rfl (Blk.new _ _ _) ?_); intro v5 w5 hY5; have HY5 := qzL hY5; clear hY5)
      go_wp2_with (at_builtin; go_loud (refine xB1 (w0 := w) (w := V) rfl (.tmp 74) (.tmp 75) rfl _ _ rfl (HY5.out.alloc _) (by rw [List.length_append, List.length_singleton]; omega) w5.heap.size 1 44 rfl (Blk.new _ _ _) ?_); intro v6 w6 hY6; have HY6 := qzL hY6; clear hY6)
      have hsn : (zs4 ++ [112]) ++ [44] = P3 ++ mkT (s.marks.take (i + 1)) := by rw [← HSN.out]; simp
      rw [hsn] at HY6
      clear hsn
      go_roundw
      case rel => exact ⟨i + 1, by simp, by omega, qzL (hYV.out.back HY6.out)⟩
      case measure => simp [intOf]; omega
     | false =>
      go_wp2_with (at_builtin; go_loud (refine xB1 (w0 := w) (w := V) rfl (.tmp 74) (.tmp 75) rfl _ _ rfl (HY4.out.alloc _) (by omega) w4.heap.size 1 44 rfl (Blk.new _ _ _) ?_); intro v6 w6 hY6; have HY6 := qzL hY6; clear hY6)
      have hsn : zs4 ++ [44] = P3 ++ mkT (s.marks.take (i + 1)) := by rw [← HSN.out]; simp
      rw [hsn] at HY6
      clear hsn
      go_roundw
      case rel => exact ⟨i + 1, by simp, by omega, qzL (hYV.out.back HY6.out)⟩
      case measure => simp [intOf]; omega
    obtain rfl : i = s.marks.length := by omega
    have tl : decide (((s.marks.length : Nat) : Int) < ((s.marks.length : Nat) : Int)) = false := qzN (by omega)
    rw [List.take_length] at hY
    have hfin : P3 ++ mkT s.marks = s.text := by
     rw [← HP3.out, ← HP2.out, ← HP1.out]
     unfold Sta.text
     simp
    rw [hfin] at hY
    have hne : s.text ≠ [] := by unfold Sta.text; simp
    have hcv := conv_bytes wr 104 5 9 Tryz.underlying104 Tryz.underlying5 Tryz.underlying9 hY.out.o hne
    clear hfin hlen hne tl hlt
    go_wp2
    go_ret
    exact ⟨rfl, hY.out.b⟩
end Go.Proofs.YtginnonjdbpamaaGreatDoor
/- The walks of the effects on one clause: perform, violate, done, expire, lapse. -/
namespace Go.Proofs.YtginnonjdbpamaaGreatDoor
open Go.RowKit
section
variable {w0 w w' : World} {b : Nat} {c : Con} {m : Cm} {s : Sta} {q : Qn}
theorem set_set {i : Nat} {x y : Mk} (l : List Mk) : (l.set i x).set i y = l.set i y := by simp
theorem Wk.cont (h : Wk w0 w b c m s q) : Cont w c m := h.cn.then_ h.hb
theorem Wk.km (h : Wk w0 w b c m s q) {i : Nat} {x : Mk} (hx : s.marks[i]? = some x) : ∃ k, m.ks[i]? = some k ∧ c.cl[i]? = some k.k := by
 have hi : i < c.cl.length := by rw [← h.lm]; exact (qzM hx).1
 obtain ⟨k, hk⟩ : ∃ k, c.cl[i]? = some k := ⟨_, qzJ hi⟩
 obtain ⟨kx, h1, h2⟩ := xCv h.cn.e hk
 exact ⟨kx, h1, by rw [h2]; exact hk⟩
theorem Eff.of_end {i : Nat} {x y : Mk} {e : Ending} (hk : Kept w w' (· = q.m)) {ew : World} (h : Eff w0 w' b c m { s with marks := s.marks.set i x } q i y e ew) : Eff w0 w b c m s q i y e ew := by
 obtain ⟨h1, h2, h3⟩ := h
 refine ⟨h1, ?_, hk.trans h3⟩
 simpa using h2
end
theorem xC2 {α : Type} {l : List α} {i : Nat} {x : α} (h : l[i]? = some x) : l.set i x = l := by
 refine List.ext_getElem? fun j => ?_
 by_cases e : i = j
 ·subst e; rw [List.getElem?_set_self (qzM h).1, h]
 ·rw [List.getElem?_set_ne e]
theorem xEz (w0 : World) (b : Nat) (c : Con) (m : Cm) (s : Sta) (q : Qn) (i : Nat) (x : Mk) (w : World) (hW : Wk w0 w b c m s q) (hx : s.marks[i]? = some x) :
  Calls Tryz.prog 75 #[.pointer (some ⟨b, 0, none⟩), .int .i64 (i : Nat)] w fun e w' => Eff w0 w b c m s q i (x.endS 3) e w' := by
 have HE := qzL (xFu w0 b c m s q i x 3 w hW hx)
 clear hW hx
 go_enter Tryz.func75, Tryz.ntmps75
 go_wp2_with (go_at_call 108; (with_reducible refine HE.out.mono ?_); rintro e w1 ⟨rfl, h1, h2⟩)
 go_end0
 exact ⟨rfl, h1, h2⟩
theorem xEa (w0 : World) (b : Nat) (c : Con) (m : Cm) (s : Sta) (q : Qn) (i : Nat) (x : Mk) (w : World) (hW : Wk w0 w b c m s q) (hx : s.marks[i]? = some x) :
  Calls Tryz.prog 76 #[.pointer (some ⟨b, 0, none⟩), .int .i64 (i : Nat)] w fun e w' => Eff w0 w b c m s q i (x.endS 5) e w' := by
 have HE := qzL (xFu w0 b c m s q i x 5 w hW hx)
 clear hW hx
 go_enter Tryz.func76, Tryz.ntmps76
 go_wp2_with (go_at_call 108; (with_reducible refine HE.out.mono ?_); rintro e w1 ⟨rfl, h1, h2⟩)
 go_end0
 exact ⟨rfl, h1, h2⟩
theorem xIp (w0 : World) (b : Nat) (c : Con) (m : Cm) (s : Sta) (q : Qn) (i : Nat) (x : Mk) (w : World) (hW : Wk w0 w b c m s q) (hx : s.marks[i]? = some x) :
  Calls Tryz.prog 79 #[.pointer (some ⟨b, 0, none⟩), .int .i64 (i : Nat)] w fun e w' => Eff w0 w b c m s q i (if x.pau then x else x.endS 4) e w' := by
 have him : i < s.marks.length := (qzM hx).1
 have hix := fun W => xAy (t := 41) (size := 5) (g := q.m) (cap := q.mc) him (by kernel_rfl) (fun W => by kernel_rfl) W
 have nm := hW.nm
 have k10 : w.cell? ⟨b, 10, none⟩ = some (.slice (some ⟨q.m, 0, none⟩) s.marks.length q.mc) := hW.g.cell 10
 obtain ⟨⟨m0, f0⟩, ⟨m1, f1⟩, ⟨m2, f2⟩, ⟨m3, f3⟩, ⟨m4, f4⟩⟩ := hW.mark hx
 have HE := qzL (xFu w0 b c m s q i x 4 w hW hx)
 have HS : Hid (Wk w0 w b c m { s with marks := s.marks.set i x } q) := by
  unfold Hid
  rw [show s.marks.set i x = s.marks from xC2 hx]
  exact hW
 clear hW hx
 cases hp : x.pau with
 | true =>
  rw [hp] at m4
  go_enter Tryz.func79, Tryz.ntmps79
  go_wp2
  go_end0
  exact ⟨rfl, HS.out, Kept.refl _ _⟩
 | false =>
  rw [hp] at m4
  go_enter Tryz.func79, Tryz.ntmps79
  go_wp2_with (go_at_call 108; (with_reducible refine HE.out.mono ?_); rintro e w1 ⟨rfl, h1, h2⟩)
  go_end0
  exact ⟨rfl, h1, h2⟩
theorem xIz (w0 : World) (b : Nat) (c : Con) (m : Cm) (s : Sta) (q : Qn) (i : Nat) (x : Mk) (k : Cla) (w : World) (hW : Wk w0 w b c m s q) (hx : s.marks[i]? = some x) (hk : c.cl[i]? = some k) (hg : 0 ≤ x.got ∧ x.got ≤ 9) :
  Calls Tryz.prog 78 #[.pointer (some ⟨b, 0, none⟩), .int .i64 (i : Nat)] w fun e w' => Eff w0 w b c m s q i (if x.got + 1 = k.need then { x with got := x.got + 1 }.endS 3 else { x with got := x.got + 1 }) e w' := by
 have him : i < s.marks.length := (qzM hx).1
 have hik : i < c.cl.length := (qzM hk).1
 have hix := fun W => xAy (t := 41) (size := 5) (g := q.m) (cap := q.mc) him (by kernel_rfl) (fun W => by kernel_rfl) W
 have nm := hW.nm
 have nk := hW.cn.nk
 obtain ⟨kx, hkx, hkk⟩ := xCv hW.cn.e hk
 have k10 : w.cell? ⟨b, 10, none⟩ = some (.slice (some ⟨q.m, 0, none⟩) s.marks.length q.mc) := hW.g.cell 10
 obtain ⟨⟨m0, f0⟩, ⟨m1, f1⟩, ⟨m2, f2⟩, ⟨m3, f3⟩, ⟨m4, f4⟩⟩ := hW.mark hx
 have HW := qzL hW
 have HX := qzL hx
 have HKX := qzL hkx
 have HKK := qzL hkk
 clear hW hx hk hkx hkk
 obtain ⟨y, hy⟩ : ∃ y, (if x.got + 1 = k.need then ({ x with got := x.got + 1 } : Mk).endS 3 else { x with got := x.got + 1 }) = y := ⟨_, rfl⟩
 rw [hy]
 have HY := qzL hy
 clear hy
 go_enter Tryz.func78, Tryz.ntmps78
 go_upto_region 1 with (fail)
 refine xAf ?_
 intro Z hZ
 have hZ2 : Hid (Wk w0 Z b c m { s with marks := s.marks.set i { x with got := x.got + 1 } } q) := by
  unfold Hid; rw [hZ]; exact HW.out.setM (j := 2) (y := { x with got := x.got + 1 }) HX.out (by omega) rfl
 have hZ3 : Hid (Kept w Z (· = q.m)) := by
  unfold Hid; rw [hZ]; exact (Kept.refl w _).setCell rfl
 clear hZ k10 m0 f0 m1 f1 m2 f2 m3 f3 m4 f4
 have hx2 : (s.marks.set i { x with got := x.got + 1 })[i]? = some { x with got := x.got + 1 } := List.getElem?_set_self him
 have hml : (s.marks.set i { x with got := x.got + 1 }).length = s.marks.length := List.length_set
 have k10 : Z.cell? ⟨b, 10, none⟩ = some (.slice (some ⟨q.m, 0, none⟩) s.marks.length q.mc) := by rw [← hml]; exact hZ2.out.g.cell 10
 have k4 : Z.cell? ⟨b, 4, none⟩ = some (.slice m.k c.cl.length m.kc) := hZ2.out.g.cell 4
 have m2 : Z.cell? ⟨q.m, i * 5 + 2, none⟩ = some (.int .i64 (x.got + 1)) := (hZ2.out.mark hx2).2.2.1.1
 obtain ⟨b0, o0, eA0, hb0, hc0⟩ := xAx hZ2.out.cont.k HKX.out
 have hix0 := fun W => xAq (t := 25) (size := 16) (cap := m.kc) eA0 hik (by kernel_rfl) (fun W => by kernel_rfl) W
 have c3 : Z.cell? ⟨b0, o0 + i * 16 + 3, none⟩ = some (.int .i64 k.need) := by rw [← HKK.out]; exact hc0 3 _ rfl
 have HX2 := qzL hx2
 clear hc0 eA0 hx2 hml
 have rg0 := cR k10
 have rg1 := cR k4
 have rg2 := cR m2
 have rg3 := cR c3
 refine xAe [0, 1, 2, 3, 4, 5, 6, 7, 8, 9, 10, 11, 12, 13, 14, 15, 16, 17, 18] [] (by kernel_rfl) (by kernel_rfl) pO ?_
 simp only [xAm, qzA, qzB, qzC, qzD, qzE, qzF]
 repeat (go_big_quiet_step (skip))
 refine wpQuiet_nil ?_
 intro Y hw2
 have hbY := xAh hw2
 clear hw2 rg0 rg1 rg2 rg3
 refine wpList_nil ?_
 have HE := qzL (xFu w0 b c m { s with marks := s.marks.set i { x with got := x.got + 1 } } q i _ 3 Y (hZ2.out.then_ hbY) HX2.out)
 cases he : (x.got + 1 == k.need) with
 | true =>
  have he2 : x.got + 1 = k.need := by simpa using he
  have HI : Hid (y = ({ x with got := x.got + 1 } : Mk).endS 3) := by unfold Hid; rw [← HY.out, if_pos he2]
  clear he2
  go_wp2_with (go_at_call 108; (with_reducible refine HE.out.mono ?_); rintro e w1 h1; obtain ⟨rfl, h2⟩ := Eff.of_end (hZ3.out.trans (Kept.of_below hbY)) h1)
  go_end0
  rw [HI.out]
  exact ⟨rfl, h2⟩
 | false =>
  have he2 : ¬ (x.got + 1 = k.need) := by simpa using he
  have HI : Hid (y = { x with got := x.got + 1 }) := by unfold Hid; rw [← HY.out, if_neg he2]
  clear he2
  go_wp2
  go_end0
  rw [HI.out]
  exact ⟨rfl, hZ2.out.then_ hbY, hZ3.out.trans (Kept.of_below hbY)⟩
theorem xGe (w0 : World) (b : Nat) (c : Con) (m : Cm) (s : Sta) (q : Qn) (i : Nat) (x : Mk) (k : Cla) (w : World) (hW : Wk w0 w b c m s q) (hx : s.marks[i]? = some x) (hk : c.cl[i]? = some k) :
  Calls Tryz.prog 74 #[.pointer (some ⟨b, 0, none⟩), .int .i64 (i : Nat)] w fun e w' => Eff w0 w b c m s q i (if x.st = 1 ∧ 0 < k.grace then { x with st := 2, left := k.grace } else x.endS 4) e w' := by
 have him : i < s.marks.length := (qzM hx).1
 have hik : i < c.cl.length := (qzM hk).1
 have hix := fun W => xAy (t := 41) (size := 5) (g := q.m) (cap := q.mc) him (by kernel_rfl) (fun W => by kernel_rfl) W
 have nm := hW.nm
 have nk := hW.cn.nk
 obtain ⟨kx, hkx, hkk⟩ := xCv hW.cn.e hk
 have k10 : w.cell? ⟨b, 10, none⟩ = some (.slice (some ⟨q.m, 0, none⟩) s.marks.length q.mc) := hW.g.cell 10
 have k4 : w.cell? ⟨b, 4, none⟩ = some (.slice m.k c.cl.length m.kc) := hW.g.cell 4
 obtain ⟨⟨m0, f0⟩, ⟨m1, f1⟩, ⟨m2, f2⟩, ⟨m3, f3⟩, ⟨m4, f4⟩⟩ := hW.mark hx
 obtain ⟨b0, o0, eA0, hb0, hc0⟩ := xAx hW.cont.k hkx
 have hix0 := fun W => xAq (t := 25) (size := 16) (cap := m.kc) eA0 hik (by kernel_rfl) (fun W => by kernel_rfl) W
 have c6 : w.cell? ⟨b0, o0 + i * 16 + 6, none⟩ = some (.int .i64 k.grace) := by rw [← hkk]; exact hc0 6 _ rfl
 have HW := qzL hW
 have HX := qzL hx
 have HE := qzL (xFu w0 b c m s q i x 4 w hW hx)
 clear hW hx hk hkx hkk hc0 eA0
 cases t1 : (x.st == 1) with
 | false =>
  have h1 : ¬ (x.st = 1 ∧ 0 < k.grace) := fun h => by simp [h.1] at t1
  rw [if_neg h1]
  clear h1
  go_enter Tryz.func74, Tryz.ntmps74
  go_wp2_with (go_at_call 108; (with_reducible refine HE.out.mono ?_); rintro e w1 ⟨rfl, h1, h2⟩)
  go_end0
  exact ⟨rfl, h1, h2⟩
 | true =>
 by_cases hg : 0 < k.grace
 ·have t2 := qzO hg
  have h1 : x.st = 1 ∧ 0 < k.grace := ⟨by simpa using t1, hg⟩
  rw [if_pos h1]
  clear h1 hg
  go_enter Tryz.func74, Tryz.ntmps74
  go_upto_region 1 with (fail)
  have rg0 := cR k10
  have rg1 := cR k4
  have rg2 := cR m0
  have rg3 := cR c6
  refine xBk [11] [0, 1, 2, 3, 4, 5, 6, 7, 8, 9, 10, 12, 13, 14, 15, 16, 17, 18, 19, 20] [21, 22, 23, 24, 25, 26] (by kernel_rfl) (by kernel_rfl) pO ?_
  simp only [xAm, qzA, qzB, qzC, qzD, qzE, qzF]
  repeat (go_big_quiet_step (skip))
  refine wpQuiet_nil ?_
  intro X hw2
  have hbX := xAh hw2
  clear hw2 rg0 rg1 rg2 rg3
  obtain ⟨⟨n0, g0⟩, ⟨n1, g1⟩, _⟩ := (HW.out.then_ hbX).mark HX.out
  have HX2 := qzL (HW.out.then_ hbX)
  go_wp2
  go_end0
  refine ⟨rfl, ?_, ?_⟩
  ·have h1 := HX2.out.setM (j := 0) (y := { x with st := 2 }) (v := .int .i64 2) HX.out (by omega) rfl
   have h2 := h1.setM (i := i) (j := 1) (x := { x with st := 2 }) (y := { x with st := 2, left := k.grace }) (v := .int .i64 k.grace) (by simp [him]) (by omega) rfl
   simpa using h2
  ·exact ((Kept.of_below (p := (· = q.m)) hbX).setCell rfl).setCell rfl
 ·have t2 := qzN hg
  have h1 : ¬ (x.st = 1 ∧ 0 < k.grace) := fun h => hg h.2
  rw [if_neg h1]
  clear h1 hg
  go_enter Tryz.func74, Tryz.ntmps74
  go_wp2_with (go_at_call 108; (with_reducible refine HE.out.mono ?_); rintro e w1 ⟨rfl, h1, h2⟩)
  go_end0
  exact ⟨rfl, h1, h2⟩
end Go.Proofs.YtginnonjdbpamaaGreatDoor
/- 'for i, x := range l' at a struct: the load, the new variable, an assignment, the store. -/
namespace Go.Proofs.YtginnonjdbpamaaGreatDoor
open Go.RowKit
theorem xBu {P : Program} {ops : Array Oper} {rest : List Oper} {o1 o2 oa o3 : Oper} {a : Act} {w : World} {Q : Exit → Act → World → Prop} {n : Nat} (ty : TypeId) (E : ElT P ty n) (x y : Operand) (d1 d2 d3 : Tmp)
  (g1 : o1.guard = none) (g2 : o2.guard = none) (ga : oa.guard = none) (g3 : o3.guard = none)
  (ho1 : o1.op = .load ty x) (hd1 : o1.dst = some d1) (ho2 : o2.op = .alloc ty) (hd2 : o2.dst = some d2) (hoa : oa.op = .assign y) (hda : oa.dst = some d3) (ho3 : o3.op = .store ty (.tmp d2) (.tmp d1)) (hd3 : o3.dst = none)
  (b o : Nat) (hx : a.eval x = .pointer (some ⟨b, o, none⟩)) (cs : List Value) (hn : cs.length = n) (hc : w.rangeAt b o cs) (h1 : ∀ v ∈ cs, v.oneCell' = true) (hne : d1 ≠ d2) (hne1 : d3 ≠ d1) (hne2 : d3 ≠ d2) (s1 : d1 < a.tmps.size) (s2 : d2 < a.tmps.size)
  (u : Value) (hyu : ((a.put (some d1) (.agg cs.toArray)).put (some d2) (.pointer (some ⟨w.heap.size, 0, none⟩))).eval y = u)
  (h : wpList P ops Q rest (((a.put (some d1) (.agg cs.toArray)).put (some d2) (.pointer (some ⟨w.heap.size, 0, none⟩))).put (some d3) u) (w.alloc (.cells cs.toArray ty))) : wpList P ops Q (o1 :: o2 :: oa :: o3 :: rest) a w := by
 subst hn hyu
 obtain ⟨⟨fs, hu⟩, hi, v, hz, hzr⟩ := E
 refine wpList_load_mid g1 ty x ho1 b o hx cs _ hc hu rfl hi ?_
 rw [hd1]
 refine wpList_plain g2 fun K hK => ?_
 have hrun : (execOp (Act.eval (a.put (some d1) (.agg cs.toArray))) o2).run P w = .ok (.value (.pointer (some ⟨w.heap.size, 0, none⟩))) (w.alloc (.cells v.cells ty)) := by
  unfold execOp
  simp only [ho2, Instr.alloc, Sem.run_bind, hzr, Result.andThen_ok, newVar, newRow]
  rfl
 unfold Oper.wp
 rw [hrun, Oper.upon_value]
 refine hK _ _ ?_
 rw [hd2]
 refine wpList_plain ga fun K hK => ?_
 unfold Oper.wp execOp
 simp only [hoa]
 refine hK _ _ ?_
 rw [hda]
 refine wpList_store_mid g3 ty _ _ ho3 w.heap.size 0 cs.toArray ?_ ?_ ?_ (by simpa using hi) (all_oneCell_toArray h1) ?_
 ·simp [Act.eval, Act.put, Array.getElem?_setIfInBounds, hne2, s2]
 ·simp [Act.eval, Act.put, Array.getElem?_setIfInBounds, hne.symm, hne1, s1]
 ·intro j hj
  simp only [Nat.zero_add, List.size_toArray] at hj ⊢
  rw [World.cell?_alloc_at _ _ _ _ rfl, World.frozen?_alloc_at _ _ _ _ rfl]
  simp [hz, hj]
 ·rw [hd3]
  simp only
  rw [xD1 w ty _ cs hz]
  exact h
end Go.Proofs.YtginnonjdbpamaaGreatDoor
