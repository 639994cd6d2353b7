/- Contracts of functions and plain laws, joined: Shv, Math, Ka1. -/
import Derived.Shelf.Small.Wraps
import Derived.Shelf.Strconv.Atoi
import Derived.Shelf.Strconv.Itoa0
import Derived.Shelf.Strconv.Itoa1
import Derived.Shelf.LaysM
import Derived.Shelf.Strconv.Itoa2
import Derived.Shelf.Strconv.Itoa3
import Derived.Shelf.Strconv.AtoiErrFast
import Derived.Shelf.Strconv.ParseIntEmpty
import Derived.Shelf.Strconv.AtoiFail
import Derived.Shelf.Strconv.Clone
import Derived.Shelf.Strconv.SyntaxError
import Derived.Shelf.LaysC
import Derived.Shelf.Strconv.ToError
import Derived.Shelf.Strconv.Lower
import Derived.Shelf.Strconv.ParseUint10
import Derived.Shelf.Strconv.ParseUint10Empty
import Derived.Shelf.Strconv.ParseUint10Any
import Derived.Shelf.Strconv.ParseInt10
import Derived.Shelf.Strconv.AtoiLong
import Derived.Shelf.Strconv.AtoiInnerAll
import Derived.Shelf.Strconv.RangeError
import Derived.Shelf.Strconv.ToErrorRange
import Derived.Shelf.Strconv.AtoiAll
import Derived.Shelf.Strconv.ErrVarAll
import Derived.Shelf.Strconv.ParseUintEmpty
import Derived.Shelf.Strconv.ParseUint10b64
import Derived.Shelf.Strconv.ParseUint10b32
import Derived.Shelf.Strconv.ParseUint10b16
import Derived.Shelf.Strconv.ParseUint10b8
import Derived.Shelf.Strconv.ParseUint10At
import Derived.Shelf.Strconv.ParseInt10At64
import Derived.Shelf.Strconv.ParseInt10At32
import Derived.Shelf.Strconv.ParseInt10At16
import Derived.Shelf.Strconv.ParseInt10At8
import Derived.Shelf.Strconv.ParseInt10All
import Derived.Shelf.Strings.Search1
import Derived.Shelf.Strings.Search2
import Derived.Shelf.Strings.Cut
import Derived.Shelf.Strings.Shaped
import Derived.Shelf.Strconv.AppendUint10
import Derived.Shelf.Strconv.AppendInt10
import Derived.Shelf.Strconv.AppendIntPublic10
import Derived.Shelf.Strings.Prefix
import Derived.Shelf.Slices.Equal
import Derived.Test.YtginnonjdbpamaaGreatDoorProg
/- Contracts of the standard library's functions (strconv.Itoa, Atoi, AppendInt, strings.Cut, HasPrefix, CutSuffix, slices.Equal and what they lean on), laid at this translation by the kit's tool (this seat's numbers). -/
import Derived.Lib.Hide
namespace Go.Proofs.YtginnonjdbpamaaGreatDoor
universe u
theorem qzA {α : Type u} {xs : List α} {i : Nat} : xs.toArray[i]? = xs[i]? := List.getElem?_toArray
theorem qzB {α : Type u} {a : α} {i : Nat} {l : List α} : (a :: l)[i + 1]? = l[i]? := List.getElem?_cons_succ
theorem qzC {α : Type u} {a : α} {l : List α} : (a :: l)[0]? = some a := List.getElem?_cons_zero
theorem qzD {α : Type u} (a : α) : (some a).toList = [a] := Option.toList_some a
theorem qzE {α : Type u} {a : α} {l1 l2 : List α} : a :: l1 ++ l2 = a :: (l1 ++ l2) := List.cons_append
theorem qzF {α : Type u} (l1 : List α) : [] ++ l1 = l1 := List.nil_append l1
theorem qzG {α : Type u} (l : List α) (i : Nat) (a : α) : l.toArray.setIfInBounds i a = (l.set i a).toArray := List.setIfInBounds_toArray l i a
theorem qzH {α : Type u} {x : α} {xs : List α} {i : Nat} {a : α} : (x :: xs).set (i + 1) a = x :: xs.set i a := List.set_cons_succ
theorem qzI {α : Type u} {x : α} {xs : List α} {a : α} : (x :: xs).set 0 a = a :: xs := List.set_cons_zero
theorem qzJ {α : Type u} {l : List α} {i : Nat} (h : i < l.length) : l[i]? = some l[i] := List.getElem?_eq_getElem h
theorem qzK {α : Type u} {l : List α} {i : Nat} {a : α} (h : l[i]? = some a) : a ∈ l := List.mem_of_getElem? h
theorem qzL {p : Prop} (h : p) : Go.RowKit.Hid p := Go.Lib.hid h
theorem qzM {α : Type u} {l : List α} {i : Nat} {a : α} (h : l[i]? = some a) : ∃ h : i < l.length, l[i] = a := List.getElem?_eq_some_iff.1 h
theorem qzN {p : Prop} [d : Decidable p] (h : ¬ p) : decide p = false := decide_eq_false h
theorem qzO {p : Prop} [d : Decidable p] (h : p) : decide p = true := decide_eq_true h
end Go.Proofs.YtginnonjdbpamaaGreatDoor
namespace Go.Proofs
open Go.Shelf
def Tryz.lays211_ren : Go.Shelf.Ren := ⟨fun | 211 => 70 | 207 => 98 | n => n, fun | 9 => 9 | 4 => 4 | 3 => 3 | n => n, fun | n => n⟩
def Tryz.lays104_ren : Go.Shelf.Ren := ⟨fun | 104 => 41 | 211 => 70 | 207 => 98 | n => n, fun | 9 => 9 | 4 => 4 | 24 => 98 | 3 => 3 | n => n, fun | n => n⟩
theorem Tryz.lays104 : Go.Proofs.Lays.n104 Tryz.prog Tryz.lays104_ren := {
 mixed := by kernel_rfl
 f104 := Tryz.func41.trans (congrArg some (by kernel_rfl))
 f207 := Tryz.func98.trans (congrArg some (by kernel_rfl))
 f211 := Tryz.func70.trans (congrArg some (by kernel_rfl))
 t3 := Tryz.underlying3
 a3 := Tryz.isAgg3
 z3 := Tryz.sizeOf3
 v3 := Tryz.zeroValue3
 t4 := Tryz.underlying4
 a4 := Tryz.isAgg4
 z4 := Tryz.sizeOf4
 v4 := Tryz.zeroValue4
 t9 := Tryz.underlying9
 a9 := Tryz.isAgg9
 z9 := Tryz.sizeOf9
 v9 := Tryz.zeroValue9
 t24 := Tryz.underlying98
 a24 := Tryz.isAgg98
 z24 := Tryz.sizeOf98
 v24 := Tryz.zeroValue98 }
open Go.RowKit in
theorem Tryz.strings_CutSuffix (s p : ByteArray) (w : World) (hs : s.size ≤ 9223372036854775807) :
  Calls Tryz.prog 41 #[.string s, .string p] w fun e w' => e = .returned (.tuple #[.string ⟨(Lib.trimSuffix s.data.toList p.data.toList).toArray⟩, .bool (Lib.hasSuffix s.data.toList p.data.toList)]) ∧ w' = w := Any.strings_CutSuffix Tryz.lays104 s p w hs
def Tryz.lays215_ren : Go.Shelf.Ren := ⟨fun | 215 => 111 | n => n, fun | 3 => 3 | 4 => 4 | n => n, fun | n => n⟩
def Tryz.lays244_ren : Go.Shelf.Ren := ⟨fun | 244 => 66 | 247 => 92 | 287 => 120 | 321 => 132 | 322 => 133 | n => n, fun | 9 => 9 | 3 => 3 | 75 => 92 | 4 => 4 | 5 => 5 | 167 => 143 | 37 => 104 | 0 => 0 | 85 => 144 | 2 => 2 | 53 => 128 | 175 => 161 | 46 => 136 | 21 => 21 | 80 => 192 | n => n, fun | n => n⟩
def Tryz.lays172_ren : Go.Shelf.Ren := ⟨fun | 172 => 38 | 244 => 66 | 245 => 67 | 247 => 92 | 279 => 93 | 280 => 94 | 281 => 95 | 282 => 96 | 287 => 120 | 316 => 121 | 171 => 39 | 205 => 122 | 321 => 132 | 322 => 133 | 243 => 68 | 246 => 97 | 283 => 123 | 284 => 124 | 285 => 125 | 286 => 126 | 129 => 135 | 317 => 134 | 318 => 136 | 319 => 137 | 320 => 138 | 337 => 142 | 338 => 143 | n => n, fun | 9 => 9 | 3 => 3 | 75 => 92 | 76 => 93 | 4 => 4 | 5 => 5 | 167 => 143 | 37 => 104 | 0 => 0 | 85 => 144 | 2 => 2 | 168 => 146 | 53 => 128 | 175 => 161 | 46 => 136 | 210 => 164 | 127 => 178 | 145 => 181 | 143 => 179 | 21 => 21 | 171 => 166 | 173 => 169 | 212 => 183 | 51 => 173 | 20 => 20 | 213 => 184 | 232 => 190 | 233 => 191 | 80 => 192 | n => n, fun | 15 => 1 | 16 => 2 | 17 => 3 | 18 => 4 | 19 => 5 | n => n⟩
def Tryz.lays129_ren : Go.Shelf.Ren := ⟨fun | 129 => 135 | n => n, fun | 53 => 128 | 3 => 3 | 4 => 4 | 46 => 136 | 5 => 5 | 9 => 9 | n => n, fun | n => n⟩
def Tryz.lays317_ren : Go.Shelf.Ren := ⟨fun | 317 => 134 | n => n, fun | 3 => 3 | 46 => 136 | n => n, fun | n => n⟩
def Tryz.lays318_ren : Go.Shelf.Ren := ⟨fun | 318 => 136 | n => n, fun | 3 => 3 | 4 => 4 | n => n, fun | n => n⟩
def Tryz.lays283_ren : Go.Shelf.Ren := ⟨fun | 283 => 123 | n => n, fun | 3 => 3 | 9 => 9 | 4 => 4 | n => n, fun | n => n⟩
def Tryz.laysM284_ren : Go.Shelf.Ren := ⟨fun | 284 => 124 | 129 => 135 | 317 => 134 | 318 => 136 | n => n, fun | 53 => 128 | 3 => 3 | 212 => 183 | 0 => 0 | 4 => 4 | 46 => 136 | 5 => 5 | 9 => 9 | n => n, fun | 17 => 3 | n => n⟩
def Tryz.lays285_ren : Go.Shelf.Ren := ⟨fun | 285 => 125 | n => n, fun | 37 => 104 | 53 => 128 | 3 => 3 | 4 => 4 | 51 => 173 | 9 => 9 | 5 => 5 | 0 => 0 | n => n, fun | n => n⟩
def Tryz.laysM246_ren : Go.Shelf.Ren := ⟨fun | 246 => 97 | 283 => 123 | 284 => 124 | 285 => 125 | 286 => 126 | 129 => 135 | 317 => 134 | 318 => 136 | 319 => 137 | 320 => 138 | 337 => 142 | 338 => 143 | n => n, fun | 2 => 2 | 3 => 3 | 9 => 9 | 4 => 4 | 171 => 166 | 0 => 0 | 53 => 128 | 37 => 104 | 5 => 5 | 173 => 169 | 212 => 183 | 51 => 173 | 20 => 20 | 213 => 184 | 46 => 136 | 232 => 190 | 233 => 191 | n => n, fun | 17 => 3 | 18 => 4 | 19 => 5 | n => n⟩
def Tryz.lays246_ren : Go.Shelf.Ren := ⟨fun | 246 => 97 | 283 => 123 | 284 => 124 | 285 => 125 | 286 => 126 | 129 => 135 | 317 => 134 | 318 => 136 | 319 => 137 | 320 => 138 | 337 => 142 | 338 => 143 | n => n, fun | 2 => 2 | 3 => 3 | 9 => 9 | 4 => 4 | 171 => 166 | 0 => 0 | 53 => 128 | 37 => 104 | 5 => 5 | 173 => 169 | 212 => 183 | 51 => 173 | 20 => 20 | 213 => 184 | 46 => 136 | 232 => 190 | 233 => 191 | n => n, fun | 17 => 3 | 18 => 4 | 19 => 5 | n => n⟩
def Tryz.laysM243_ren : Go.Shelf.Ren := ⟨fun | 243 => 68 | 246 => 97 | 283 => 123 | 284 => 124 | 285 => 125 | 286 => 126 | 129 => 135 | 317 => 134 | 318 => 136 | 319 => 137 | 320 => 138 | 337 => 142 | 338 => 143 | n => n, fun | 3 => 3 | 9 => 9 | 2 => 2 | 4 => 4 | 171 => 166 | 0 => 0 | 53 => 128 | 37 => 104 | 5 => 5 | 173 => 169 | 212 => 183 | 51 => 173 | 20 => 20 | 213 => 184 | 46 => 136 | 232 => 190 | 233 => 191 | n => n, fun | 17 => 3 | 18 => 4 | 19 => 5 | n => n⟩
def Tryz.lays243_ren : Go.Shelf.Ren := ⟨fun | 243 => 68 | 246 => 97 | 283 => 123 | 284 => 124 | 285 => 125 | 286 => 126 | 129 => 135 | 317 => 134 | 318 => 136 | 319 => 137 | 320 => 138 | 337 => 142 | 338 => 143 | n => n, fun | 3 => 3 | 9 => 9 | 2 => 2 | 4 => 4 | 171 => 166 | 0 => 0 | 53 => 128 | 37 => 104 | 5 => 5 | 173 => 169 | 212 => 183 | 51 => 173 | 20 => 20 | 213 => 184 | 46 => 136 | 232 => 190 | 233 => 191 | n => n, fun | 17 => 3 | 18 => 4 | 19 => 5 | n => n⟩
def Tryz.laysM171_ren : Go.Shelf.Ren := ⟨fun | 171 => 39 | 243 => 68 | 246 => 97 | 283 => 123 | 284 => 124 | 285 => 125 | 286 => 126 | 129 => 135 | 317 => 134 | 318 => 136 | 319 => 137 | 320 => 138 | 337 => 142 | 338 => 143 | n => n, fun | 3 => 3 | 9 => 9 | 2 => 2 | 4 => 4 | 171 => 166 | 0 => 0 | 53 => 128 | 37 => 104 | 5 => 5 | 173 => 169 | 212 => 183 | 51 => 173 | 20 => 20 | 213 => 184 | 46 => 136 | 232 => 190 | 233 => 191 | n => n, fun | 17 => 3 | 18 => 4 | 19 => 5 | n => n⟩
theorem Tryz.laysM171 : Go.Proofs.LaysM.n171 Tryz.prog Tryz.laysM171_ren := {
 mixed := by kernel_rfl
 f129 := Tryz.func135.trans (congrArg some (by kernel_rfl))
 f171 := Tryz.func39.trans (congrArg some (by kernel_rfl))
 f243 := Tryz.func68.trans (congrArg some (by kernel_rfl))
 f246 := Tryz.func97.trans (congrArg some (by kernel_rfl))
 f283 := Tryz.func123.trans (congrArg some (by kernel_rfl))
 f284 := Tryz.func124.trans (congrArg some (by kernel_rfl))
 f285 := Tryz.func125.trans (congrArg some (by kernel_rfl))
 f286 := Tryz.func126.trans (congrArg some (by kernel_rfl))
 f317 := Tryz.func134.trans (congrArg some (by kernel_rfl))
 f318 := Tryz.func136.trans (congrArg some (by kernel_rfl))
 f319 := Tryz.func137.trans (congrArg some (by kernel_rfl))
 f320 := Tryz.func138.trans (congrArg some (by kernel_rfl))
 f337 := Tryz.func142.trans (congrArg some (by kernel_rfl))
 f338 := Tryz.func143.trans (congrArg some (by kernel_rfl))
 t0 := Tryz.underlying0
 a0 := Tryz.isAgg0
 z0 := Tryz.sizeOf0
 v0 := Tryz.zeroValue0
 t2 := Tryz.underlying2
 a2 := Tryz.isAgg2
 z2 := Tryz.sizeOf2
 v2 := Tryz.zeroValue2
 t3 := Tryz.underlying3
 a3 := Tryz.isAgg3
 z3 := Tryz.sizeOf3
 v3 := Tryz.zeroValue3
 t4 := Tryz.underlying4
 a4 := Tryz.isAgg4
 z4 := Tryz.sizeOf4
 v4 := Tryz.zeroValue4
 t5 := Tryz.underlying5
 a5 := Tryz.isAgg5
 z5 := Tryz.sizeOf5
 v5 := Tryz.zeroValue5
 t9 := Tryz.underlying9
 a9 := Tryz.isAgg9
 z9 := Tryz.sizeOf9
 v9 := Tryz.zeroValue9
 t20 := Tryz.underlying20
 a20 := Tryz.isAgg20
 z20 := Tryz.sizeOf20
 v20 := Tryz.zeroValue20
 t37 := Tryz.underlying104
 a37 := Tryz.isAgg104
 z37 := Tryz.sizeOf104
 v37 := Tryz.zeroValue104
 t46 := Tryz.underlying136
 a46 := Tryz.isAgg136
 z46 := Tryz.sizeOf136
 v46 := Tryz.zeroValue136
 t51 := Tryz.underlying173
 a51 := Tryz.isAgg173
 z51 := Tryz.sizeOf173
 v51 := Tryz.zeroValue173
 t53 := Tryz.underlying128
 a53 := Tryz.isAgg128
 z53 := Tryz.sizeOf128
 v53 := Tryz.zeroValue128
 t171 := Tryz.underlying166
 a171 := Tryz.isAgg166
 z171 := Tryz.sizeOf166
 v171 := Tryz.zeroValue166
 t173 := Tryz.underlying169
 a173 := Tryz.isAgg169
 z173 := Tryz.sizeOf169
 v173 := Tryz.zeroValue169
 t212 := Tryz.underlying183
 a212 := Tryz.isAgg183
 z212 := Tryz.sizeOf183
 v212 := Tryz.zeroValue183
 t213 := Tryz.underlying184
 a213 := Tryz.isAgg184
 z213 := Tryz.sizeOf184
 t232 := Tryz.underlying190
 a232 := Tryz.isAgg190
 z232 := Tryz.sizeOf190
 v232 := Tryz.zeroValue190
 t233 := Tryz.underlying191
 a233 := Tryz.isAgg191
 z233 := Tryz.sizeOf191
 v233 := Tryz.zeroValue191
 g17 := by kernel_rfl
 g18 := by kernel_rfl
 g19 := by kernel_rfl
 i0 := by kernel_rfl
 i2 := by kernel_rfl
 i3 := by kernel_rfl
 i4 := by kernel_rfl
 i5 := by kernel_rfl
 i9 := by kernel_rfl
 i20 := by kernel_rfl
 i37 := by kernel_rfl
 i46 := by kernel_rfl
 i51 := by kernel_rfl
 i53 := by kernel_rfl
 i171 := by kernel_rfl
 i173 := by kernel_rfl
 i212 := by kernel_rfl
 i232 := by kernel_rfl
 i233 := by kernel_rfl
 m17 := by kernel_rfl
 m18 := by kernel_rfl
 m19 := by kernel_rfl }
open Go.RowKit Go.Sort Go.Lib in
theorem Tryz.strconv_Itoa (n : Int) (h0 : -9223372036854775808 ≤ n) (h1 : n ≤ 9223372036854775807) (w : World) (htab : Lib.TabIs Tryz.prog w "internal/strconv.uint64pow10" .u64 Lib.pow10Tab) :
  Calls Tryz.prog 39 #[.int .i64 n] w fun e w' => e = .returned (.string ⟨(Lib.itoa n).toArray⟩) ∧ ∃ k os, w' = grow (w.drewN k) os := Any.strconv_Itoa Tryz.laysM171 n h0 h1 w htab
def Tryz.lays171_ren : Go.Shelf.Ren := ⟨fun | 171 => 39 | 243 => 68 | 246 => 97 | 283 => 123 | 284 => 124 | 285 => 125 | 286 => 126 | 129 => 135 | 317 => 134 | 318 => 136 | 319 => 137 | 320 => 138 | 337 => 142 | 338 => 143 | n => n, fun | 3 => 3 | 9 => 9 | 2 => 2 | 4 => 4 | 171 => 166 | 0 => 0 | 53 => 128 | 37 => 104 | 5 => 5 | 173 => 169 | 212 => 183 | 51 => 173 | 20 => 20 | 213 => 184 | 46 => 136 | 232 => 190 | 233 => 191 | n => n, fun | 17 => 3 | 18 => 4 | 19 => 5 | n => n⟩
def Tryz.lays247_ren : Go.Shelf.Ren := ⟨fun | 247 => 92 | 287 => 120 | 321 => 132 | 322 => 133 | n => n, fun | 9 => 9 | 3 => 3 | 2 => 2 | 75 => 92 | 4 => 4 | 167 => 143 | 5 => 5 | 53 => 128 | 175 => 161 | 46 => 136 | 37 => 104 | 0 => 0 | 21 => 21 | 80 => 192 | n => n, fun | n => n⟩
def Tryz.laysM316_ren : Go.Shelf.Ren := ⟨fun | 316 => 121 | n => n, fun | 9 => 9 | 3 => 3 | 4 => 4 | 37 => 104 | 0 => 0 | 127 => 178 | 5 => 5 | n => n, fun | n => n⟩
def Tryz.laysM279_ren : Go.Shelf.Ren := ⟨fun | 279 => 93 | 316 => 121 | n => n, fun | 9 => 9 | 168 => 146 | 75 => 92 | 210 => 164 | 3 => 3 | 4 => 4 | 37 => 104 | 0 => 0 | 127 => 178 | 80 => 192 | 5 => 5 | n => n, fun | 15 => 1 | n => n⟩
def Tryz.laysC245_ren : Go.Shelf.Ren := ⟨fun | 245 => 67 | 279 => 93 | 280 => 94 | 281 => 95 | 282 => 96 | 316 => 121 | 171 => 39 | 205 => 122 | 243 => 68 | 246 => 97 | 283 => 123 | 284 => 124 | 285 => 125 | 286 => 126 | 129 => 135 | 317 => 134 | 318 => 136 | 319 => 137 | 320 => 138 | 337 => 142 | 338 => 143 | n => n, fun | 9 => 9 | 3 => 3 | 75 => 92 | 167 => 143 | 4 => 4 | 168 => 146 | 210 => 164 | 37 => 104 | 0 => 0 | 127 => 178 | 145 => 181 | 143 => 179 | 2 => 2 | 171 => 166 | 53 => 128 | 5 => 5 | 173 => 169 | 212 => 183 | 51 => 173 | 20 => 20 | 213 => 184 | 46 => 136 | 232 => 190 | 233 => 191 | 80 => 192 | n => n, fun | 15 => 1 | 16 => 2 | 17 => 3 | 18 => 4 | 19 => 5 | n => n⟩
def Tryz.lays321_ren : Go.Shelf.Ren := ⟨fun | 321 => 132 | n => n, fun | 5 => 5 | n => n, fun | n => n⟩
def Tryz.lays287_ren : Go.Shelf.Ren := ⟨fun | 287 => 120 | 321 => 132 | 322 => 133 | n => n, fun | 9 => 9 | 3 => 3 | 53 => 128 | 75 => 92 | 4 => 4 | 167 => 143 | 5 => 5 | 46 => 136 | 37 => 104 | 0 => 0 | 21 => 21 | 80 => 192 | n => n, fun | n => n⟩
def Tryz.laysC247_ren : Go.Shelf.Ren := ⟨fun | 247 => 92 | 287 => 120 | 321 => 132 | 322 => 133 | n => n, fun | 9 => 9 | 3 => 3 | 2 => 2 | 75 => 92 | 4 => 4 | 167 => 143 | 5 => 5 | 53 => 128 | 175 => 161 | 46 => 136 | 37 => 104 | 0 => 0 | 21 => 21 | 80 => 192 | n => n, fun | n => n⟩
def Tryz.laysC244_ren : Go.Shelf.Ren := ⟨fun | 244 => 66 | 247 => 92 | 287 => 120 | 321 => 132 | 322 => 133 | n => n, fun | 9 => 9 | 3 => 3 | 75 => 92 | 4 => 4 | 5 => 5 | 167 => 143 | 37 => 104 | 0 => 0 | 85 => 144 | 2 => 2 | 53 => 128 | 175 => 161 | 46 => 136 | 21 => 21 | 80 => 192 | n => n, fun | n => n⟩
def Tryz.laysM280_ren : Go.Shelf.Ren := ⟨fun | 280 => 94 | 316 => 121 | n => n, fun | 9 => 9 | 168 => 146 | 75 => 92 | 210 => 164 | 3 => 3 | 4 => 4 | 37 => 104 | 0 => 0 | 127 => 178 | 80 => 192 | 5 => 5 | n => n, fun | 16 => 2 | n => n⟩
def Tryz.laysC172_ren : Go.Shelf.Ren := ⟨fun | 172 => 38 | 244 => 66 | 245 => 67 | 247 => 92 | 279 => 93 | 280 => 94 | 281 => 95 | 282 => 96 | 287 => 120 | 316 => 121 | 171 => 39 | 205 => 122 | 321 => 132 | 322 => 133 | 243 => 68 | 246 => 97 | 283 => 123 | 284 => 124 | 285 => 125 | 286 => 126 | 129 => 135 | 317 => 134 | 318 => 136 | 319 => 137 | 320 => 138 | 337 => 142 | 338 => 143 | n => n, fun | 9 => 9 | 3 => 3 | 75 => 92 | 76 => 93 | 4 => 4 | 5 => 5 | 167 => 143 | 37 => 104 | 0 => 0 | 85 => 144 | 2 => 2 | 168 => 146 | 53 => 128 | 175 => 161 | 46 => 136 | 210 => 164 | 127 => 178 | 145 => 181 | 143 => 179 | 21 => 21 | 171 => 166 | 173 => 169 | 212 => 183 | 51 => 173 | 20 => 20 | 213 => 184 | 232 => 190 | 233 => 191 | 80 => 192 | n => n, fun | 15 => 1 | 16 => 2 | 17 => 3 | 18 => 4 | 19 => 5 | n => n⟩
theorem Tryz.laysC172 : Go.Proofs.LaysC.n172 Tryz.prog Tryz.laysC172_ren := {
 mixed := by kernel_rfl
 f129 := Tryz.func135.trans (congrArg some (by kernel_rfl))
 f171 := Tryz.func39.trans (congrArg some (by kernel_rfl))
 f172 := Tryz.func38.trans (congrArg some (by kernel_rfl))
 f205 := Tryz.func122.trans (congrArg some (by kernel_rfl))
 f243 := Tryz.func68.trans (congrArg some (by kernel_rfl))
 f244 := Tryz.func66.trans (congrArg some (by kernel_rfl))
 f245 := Tryz.func67.trans (congrArg some (by kernel_rfl))
 f246 := Tryz.func97.trans (congrArg some (by kernel_rfl))
 f247 := Tryz.func92.trans (congrArg some (by kernel_rfl))
 f279 := Tryz.func93.trans (congrArg some (by kernel_rfl))
 f280 := Tryz.func94.trans (congrArg some (by kernel_rfl))
 f281 := Tryz.func95.trans (congrArg some (by kernel_rfl))
 f282 := Tryz.func96.trans (congrArg some (by kernel_rfl))
 f283 := Tryz.func123.trans (congrArg some (by kernel_rfl))
 f284 := Tryz.func124.trans (congrArg some (by kernel_rfl))
 f285 := Tryz.func125.trans (congrArg some (by kernel_rfl))
 f286 := Tryz.func126.trans (congrArg some (by kernel_rfl))
 f287 := Tryz.func120.trans (congrArg some (by kernel_rfl))
 f316 := Tryz.func121.trans (congrArg some (by kernel_rfl))
 f317 := Tryz.func134.trans (congrArg some (by kernel_rfl))
 f318 := Tryz.func136.trans (congrArg some (by kernel_rfl))
 f319 := Tryz.func137.trans (congrArg some (by kernel_rfl))
 f320 := Tryz.func138.trans (congrArg some (by kernel_rfl))
 f321 := Tryz.func132.trans (congrArg some (by kernel_rfl))
 f322 := Tryz.func133.trans (congrArg some (by kernel_rfl))
 f337 := Tryz.func142.trans (congrArg some (by kernel_rfl))
 f338 := Tryz.func143.trans (congrArg some (by kernel_rfl))
 t0 := Tryz.underlying0
 a0 := Tryz.isAgg0
 z0 := Tryz.sizeOf0
 v0 := Tryz.zeroValue0
 t2 := Tryz.underlying2
 a2 := Tryz.isAgg2
 z2 := Tryz.sizeOf2
 v2 := Tryz.zeroValue2
 t3 := Tryz.underlying3
 a3 := Tryz.isAgg3
 z3 := Tryz.sizeOf3
 v3 := Tryz.zeroValue3
 t4 := Tryz.underlying4
 a4 := Tryz.isAgg4
 z4 := Tryz.sizeOf4
 v4 := Tryz.zeroValue4
 t5 := Tryz.underlying5
 a5 := Tryz.isAgg5
 z5 := Tryz.sizeOf5
 v5 := Tryz.zeroValue5
 t9 := Tryz.underlying9
 a9 := Tryz.isAgg9
 z9 := Tryz.sizeOf9
 v9 := Tryz.zeroValue9
 t20 := Tryz.underlying20
 a20 := Tryz.isAgg20
 z20 := Tryz.sizeOf20
 v20 := Tryz.zeroValue20
 t21 := Tryz.underlying21
 a21 := Tryz.isAgg21
 z21 := Tryz.sizeOf21
 v21 := Tryz.zeroValue21
 t37 := Tryz.underlying104
 a37 := Tryz.isAgg104
 z37 := Tryz.sizeOf104
 v37 := Tryz.zeroValue104
 t46 := Tryz.underlying136
 a46 := Tryz.isAgg136
 z46 := Tryz.sizeOf136
 v46 := Tryz.zeroValue136
 t51 := Tryz.underlying173
 a51 := Tryz.isAgg173
 z51 := Tryz.sizeOf173
 v51 := Tryz.zeroValue173
 t53 := Tryz.underlying128
 a53 := Tryz.isAgg128
 z53 := Tryz.sizeOf128
 v53 := Tryz.zeroValue128
 t75 := Tryz.underlying92
 a75 := Tryz.isAgg92
 z75 := Tryz.sizeOf92
 v75 := Tryz.zeroValue92
 t76 := Tryz.underlying93
 a76 := Tryz.isAgg93
 z76 := Tryz.sizeOf93
 v76 := Tryz.zeroValue93
 t85 := Tryz.underlying144
 a85 := Tryz.isAgg144
 z85 := Tryz.sizeOf144
 v85 := Tryz.zeroValue144
 t127 := Tryz.underlying178
 a127 := Tryz.isAgg178
 z127 := Tryz.sizeOf178
 v127 := Tryz.zeroValue178
 t143 := Tryz.underlying179
 a143 := Tryz.isAgg179
 z143 := Tryz.sizeOf179
 v143 := Tryz.zeroValue179
 t145 := Tryz.underlying181
 a145 := Tryz.isAgg181
 z145 := Tryz.sizeOf181
 v145 := Tryz.zeroValue181
 t167 := Tryz.underlying143
 a167 := Tryz.isAgg143
 z167 := Tryz.sizeOf143
 v167 := Tryz.zeroValue143
 t168 := Tryz.underlying146
 a168 := Tryz.isAgg146
 z168 := Tryz.sizeOf146
 v168 := Tryz.zeroValue146
 t171 := Tryz.underlying166
 a171 := Tryz.isAgg166
 z171 := Tryz.sizeOf166
 v171 := Tryz.zeroValue166
 t173 := Tryz.underlying169
 a173 := Tryz.isAgg169
 z173 := Tryz.sizeOf169
 v173 := Tryz.zeroValue169
 t175 := Tryz.underlying161
 a175 := Tryz.isAgg161
 z175 := Tryz.sizeOf161
 v175 := Tryz.zeroValue161
 t210 := Tryz.underlying164
 a210 := Tryz.isAgg164
 z210 := Tryz.sizeOf164
 v210 := Tryz.zeroValue164
 t212 := Tryz.underlying183
 a212 := Tryz.isAgg183
 z212 := Tryz.sizeOf183
 v212 := Tryz.zeroValue183
 t213 := Tryz.underlying184
 a213 := Tryz.isAgg184
 z213 := Tryz.sizeOf184
 t232 := Tryz.underlying190
 a232 := Tryz.isAgg190
 z232 := Tryz.sizeOf190
 v232 := Tryz.zeroValue190
 t233 := Tryz.underlying191
 a233 := Tryz.isAgg191
 z233 := Tryz.sizeOf191
 v233 := Tryz.zeroValue191
 g15 := by kernel_rfl
 g16 := by kernel_rfl
 g17 := by kernel_rfl
 g18 := by kernel_rfl
 g19 := by kernel_rfl
 t80 := Tryz.underlying192
 a80 := Tryz.isAgg192
 z80 := Tryz.sizeOf192
 v80 := Tryz.zeroValue192
 i0 := by kernel_rfl
 i2 := by kernel_rfl
 i3 := by kernel_rfl
 i4 := by kernel_rfl
 i5 := by kernel_rfl
 i9 := by kernel_rfl
 i20 := by kernel_rfl
 i21 := by kernel_rfl
 i37 := by kernel_rfl
 i46 := by kernel_rfl
 i51 := by kernel_rfl
 i53 := by kernel_rfl
 i75 := by kernel_rfl
 i76 := by kernel_rfl
 i80 := by kernel_rfl
 i85 := by kernel_rfl
 i127 := by kernel_rfl
 i143 := by kernel_rfl
 i145 := by kernel_rfl
 i167 := by kernel_rfl
 i168 := by kernel_rfl
 i171 := by kernel_rfl
 i173 := by kernel_rfl
 i175 := by kernel_rfl
 i210 := by kernel_rfl
 i212 := by kernel_rfl
 i232 := by kernel_rfl
 i233 := by kernel_rfl
 m15 := by kernel_rfl
 m16 := by kernel_rfl
 m17 := by kernel_rfl
 m18 := by kernel_rfl
 m19 := by kernel_rfl
 c0 := by kernel_rfl
 c2 := by kernel_rfl
 c3 := by kernel_rfl
 c4 := by kernel_rfl
 c5 := by kernel_rfl
 c9 := by kernel_rfl
 c20 := by kernel_rfl
 c21 := by kernel_rfl
 c37 := by kernel_rfl
 c46 := by kernel_rfl
 c51 := by kernel_rfl
 c53 := by kernel_rfl
 c75 := by kernel_rfl
 c76 := by kernel_rfl
 c80 := by kernel_rfl
 c85 := by kernel_rfl
 c127 := by kernel_rfl
 c143 := by kernel_rfl
 c145 := by kernel_rfl
 c167 := by kernel_rfl
 c168 := by kernel_rfl
 c171 := by kernel_rfl
 c173 := by kernel_rfl
 c175 := by kernel_rfl
 c210 := by kernel_rfl
 c212 := by kernel_rfl
 c213 := by kernel_rfl
 c232 := by kernel_rfl
 c233 := by kernel_rfl }
open Go.RowKit in
theorem Tryz.strconv_Atoi_ok (s : ByteArray) (hmax : s.size ≤ 9223372036854775806) (v : Int) (h : Lib.atoiAll s.data.toList = .ok v) (w : World) :
  Calls Tryz.prog 38 #[.string s] w fun e w' => e = .returned (.tuple #[.int .i64 v, .nilIface]) ∧ (w' = w ∨ ∃ t, w' = Lib.bytesWorld w 5 t) := Any.strconv_Atoi_ok Tryz.laysC172 s hmax v h w
open Go.RowKit in
theorem Tryz.strconv_Atoi_bad (s : ByteArray) (hlim : s.size ≤ 281474976710656) (h1 : ∀ v, Lib.atoiAll s.data.toList ≠ .ok v) (h2 : Lib.atoiAll s.data.toList ≠ .range) (ev : Value) (w : World) (hv : w.cell? ⟨1, 0, none⟩ = some ev) (hev : ev = .nilIface ∨ ∃ te pe, ev = .iface te pe) :
  Calls Tryz.prog 38 #[.string s] w fun e w' => ∃ N, e = .returned (.tuple #[.int .i64 (0), .iface 146 (.pointer (some ⟨N, 0, none⟩))]) ∧ w.heap.size ≤ N ∧ w'.heap[N]? = some (.cells #[.string ⟨#[65, 116, 111, 105]⟩, .string s, ev] 164 (0, 0)) ∧ Below w.heap.size w w' := by
 cases hc : Lib.atoiAll s.data.toList with
 | ok v => exact absurd hc (h1 v)
 | range => exact absurd hc h2
 | _ => exact Any.strconv_Atoi_syntax Tryz.laysC172 s hlim hc ev w hv hev
open Go.RowKit in
theorem Tryz.strconv_Atoi_range (s : ByteArray) (hlim : s.size ≤ 281474976710656) (h : Lib.atoiAll s.data.toList = .range) (ev : Value) (w : World) (hv : w.cell? ⟨2, 0, none⟩ = some ev) (hev : ev = .nilIface ∨ ∃ te pe, ev = .iface te pe) :
  Calls Tryz.prog 38 #[.string s] w fun e w' => ∃ N, e = .returned (.tuple #[.int .i64 (Lib.atoiSat s.data.toList), .iface 146 (.pointer (some ⟨N, 0, none⟩))]) ∧ w.heap.size ≤ N ∧ w'.heap[N]? = some (.cells #[.string ⟨#[65, 116, 111, 105]⟩, .string s, ev] 164 (0, 0)) ∧ Below w.heap.size w w' := Any.strconv_Atoi_range Tryz.laysC172 s hlim h ev w hv hev
def Tryz.lays217_ren : Go.Shelf.Ren := ⟨fun | 217 => 116 | 266 => 130 | n => n, fun | 9 => 9 | 5 => 5 | 3 => 3 | n => n, fun | n => n⟩
def Tryz.lays224_ren : Go.Shelf.Ren := ⟨fun | 224 => 118 | n => n, fun | 3 => 3 | n => n, fun | n => n⟩
def Tryz.lays314_ren : Go.Shelf.Ren := ⟨fun | 314 => 131 | n => n, fun | 9 => 9 | 51 => 173 | 3 => 3 | 4 => 4 | 5 => 5 | 46 => 136 | n => n, fun | n => n⟩
def Tryz.lays267_ren : Go.Shelf.Ren := ⟨fun | 267 => 119 | 314 => 131 | n => n, fun | 9 => 9 | 3 => 3 | 146 => 174 | 51 => 173 | 4 => 4 | 5 => 5 | 46 => 136 | n => n, fun | n => n⟩
def Tryz.lays219_ren : Go.Shelf.Ren := ⟨fun | 219 => 91 | 217 => 116 | 225 => 117 | 224 => 118 | 267 => 119 | 266 => 130 | 314 => 131 | n => n, fun | 9 => 9 | 3 => 3 | 4 => 4 | 5 => 5 | 46 => 136 | 146 => 174 | 51 => 173 | n => n, fun | 1 => 0 | n => n⟩
def Tryz.lays220_ren : Go.Shelf.Ren := ⟨fun | 220 => 65 | 219 => 91 | 217 => 116 | 225 => 117 | 224 => 118 | 267 => 119 | 266 => 130 | 314 => 131 | n => n, fun | 9 => 9 | 4 => 4 | 3 => 3 | 5 => 5 | 46 => 136 | 146 => 174 | 51 => 173 | n => n, fun | 1 => 0 | n => n⟩
def Tryz.lays145_ren : Go.Shelf.Ren := ⟨fun | 145 => 36 | 220 => 65 | 219 => 91 | 217 => 116 | 225 => 117 | 224 => 118 | 267 => 119 | 266 => 130 | 314 => 131 | n => n, fun | 9 => 9 | 4 => 4 | 59 => 88 | 3 => 3 | 5 => 5 | 46 => 136 | 146 => 174 | 51 => 173 | n => n, fun | 1 => 0 | n => n⟩
theorem Tryz.lays145 : Go.Proofs.Lays.n145 Tryz.prog Tryz.lays145_ren := {
 mixed := by kernel_rfl
 f145 := Tryz.func36.trans (congrArg some (by kernel_rfl))
 f217 := Tryz.func116.trans (congrArg some (by kernel_rfl))
 f219 := Tryz.func91.trans (congrArg some (by kernel_rfl))
 f220 := Tryz.func65.trans (congrArg some (by kernel_rfl))
 f224 := Tryz.func118.trans (congrArg some (by kernel_rfl))
 f225 := Tryz.func117.trans (congrArg some (by kernel_rfl))
 f266 := Tryz.func130.trans (congrArg some (by kernel_rfl))
 f267 := Tryz.func119.trans (congrArg some (by kernel_rfl))
 f314 := Tryz.func131.trans (congrArg some (by kernel_rfl))
 t3 := Tryz.underlying3
 a3 := Tryz.isAgg3
 z3 := Tryz.sizeOf3
 v3 := Tryz.zeroValue3
 t4 := Tryz.underlying4
 a4 := Tryz.isAgg4
 z4 := Tryz.sizeOf4
 v4 := Tryz.zeroValue4
 t5 := Tryz.underlying5
 a5 := Tryz.isAgg5
 z5 := Tryz.sizeOf5
 v5 := Tryz.zeroValue5
 t9 := Tryz.underlying9
 a9 := Tryz.isAgg9
 z9 := Tryz.sizeOf9
 v9 := Tryz.zeroValue9
 t46 := Tryz.underlying136
 a46 := Tryz.isAgg136
 z46 := Tryz.sizeOf136
 v46 := Tryz.zeroValue136
 t51 := Tryz.underlying173
 a51 := Tryz.isAgg173
 z51 := Tryz.sizeOf173
 v51 := Tryz.zeroValue173
 t59 := Tryz.underlying88
 a59 := Tryz.isAgg88
 z59 := Tryz.sizeOf88
 v59 := Tryz.zeroValue88
 t146 := Tryz.underlying174
 a146 := Tryz.isAgg174
 z146 := Tryz.sizeOf174
 v146 := Tryz.zeroValue174
 g1 := by kernel_rfl }
open Go.RowKit Go.Lib in
theorem Tryz.strings_Cut (s sep : ByteArray) (m : Int) (w : World) (hs : s.size < 4294967281) (hm : w.cell? ⟨0, 0, none⟩ = some (.int .i64 m)) :
  Calls Tryz.prog 36 #[.string s, .string sep] w fun e w' => e = .returned (.tuple #[.string ⟨(Lib.cut s.data.toList sep.data.toList).1.toArray⟩, .string ⟨(Lib.cut s.data.toList sep.data.toList).2.1.toArray⟩, .bool (Lib.cut s.data.toList sep.data.toList).2.2]) ∧ ∃ n, w' = w.drewN n := Any.strings_Cut Tryz.lays145 s sep m w hs hm
def Tryz.laysM219_ren : Go.Shelf.Ren := ⟨fun | 219 => 91 | 217 => 116 | 225 => 117 | 224 => 118 | 267 => 119 | 266 => 130 | 314 => 131 | n => n, fun | 9 => 9 | 3 => 3 | 4 => 4 | 5 => 5 | 46 => 136 | 146 => 174 | 51 => 173 | n => n, fun | 1 => 0 | n => n⟩
def Tryz.laysM220_ren : Go.Shelf.Ren := ⟨fun | 220 => 65 | 219 => 91 | 217 => 116 | 225 => 117 | 224 => 118 | 267 => 119 | 266 => 130 | 314 => 131 | n => n, fun | 9 => 9 | 4 => 4 | 3 => 3 | 5 => 5 | 46 => 136 | 146 => 174 | 51 => 173 | n => n, fun | 1 => 0 | n => n⟩
def Tryz.laysM145_ren : Go.Shelf.Ren := ⟨fun | 145 => 36 | 220 => 65 | 219 => 91 | 217 => 116 | 225 => 117 | 224 => 118 | 267 => 119 | 266 => 130 | 314 => 131 | n => n, fun | 9 => 9 | 4 => 4 | 59 => 88 | 3 => 3 | 5 => 5 | 46 => 136 | 146 => 174 | 51 => 173 | n => n, fun | 1 => 0 | n => n⟩
theorem Tryz.laysM145 : Go.Proofs.LaysM.n145 Tryz.prog Tryz.laysM145_ren := {
 mixed := by kernel_rfl
 f145 := Tryz.func36.trans (congrArg some (by kernel_rfl))
 f217 := Tryz.func116.trans (congrArg some (by kernel_rfl))
 f219 := Tryz.func91.trans (congrArg some (by kernel_rfl))
 f220 := Tryz.func65.trans (congrArg some (by kernel_rfl))
 f224 := Tryz.func118.trans (congrArg some (by kernel_rfl))
 f225 := Tryz.func117.trans (congrArg some (by kernel_rfl))
 f266 := Tryz.func130.trans (congrArg some (by kernel_rfl))
 f267 := Tryz.func119.trans (congrArg some (by kernel_rfl))
 f314 := Tryz.func131.trans (congrArg some (by kernel_rfl))
 t3 := Tryz.underlying3
 a3 := Tryz.isAgg3
 z3 := Tryz.sizeOf3
 v3 := Tryz.zeroValue3
 t4 := Tryz.underlying4
 a4 := Tryz.isAgg4
 z4 := Tryz.sizeOf4
 v4 := Tryz.zeroValue4
 t5 := Tryz.underlying5
 a5 := Tryz.isAgg5
 z5 := Tryz.sizeOf5
 v5 := Tryz.zeroValue5
 t9 := Tryz.underlying9
 a9 := Tryz.isAgg9
 z9 := Tryz.sizeOf9
 v9 := Tryz.zeroValue9
 t46 := Tryz.underlying136
 a46 := Tryz.isAgg136
 z46 := Tryz.sizeOf136
 v46 := Tryz.zeroValue136
 t51 := Tryz.underlying173
 a51 := Tryz.isAgg173
 z51 := Tryz.sizeOf173
 v51 := Tryz.zeroValue173
 t59 := Tryz.underlying88
 a59 := Tryz.isAgg88
 z59 := Tryz.sizeOf88
 v59 := Tryz.zeroValue88
 t146 := Tryz.underlying174
 a146 := Tryz.isAgg174
 z146 := Tryz.sizeOf174
 v146 := Tryz.zeroValue174
 g1 := by kernel_rfl
 i3 := by kernel_rfl
 i4 := by kernel_rfl
 i5 := by kernel_rfl
 i9 := by kernel_rfl
 i46 := by kernel_rfl
 i51 := by kernel_rfl
 i59 := by kernel_rfl
 i146 := by kernel_rfl
 m1 := by kernel_rfl
 s1_3 := fun w h => Go.Proofs.cell_of_shapedOpen_int (zero := #[.int .i64 0]) (t := 3) h (of_decide_eq_true (by kernel_rfl)) (by kernel_rfl) rfl (by kernel_rfl) (by kernel_rfl) Tryz.underlying3 }
def Tryz.laysM288_ren : Go.Shelf.Ren := ⟨fun | 288 => 127 | 283 => 123 | 284 => 124 | 285 => 125 | 286 => 126 | 129 => 135 | 317 => 134 | 318 => 136 | 319 => 137 | 320 => 138 | 337 => 142 | 338 => 143 | n => n, fun | 37 => 104 | 53 => 128 | 3 => 3 | 4 => 4 | 9 => 9 | 171 => 166 | 0 => 0 | 173 => 169 | 212 => 183 | 51 => 173 | 5 => 5 | 20 => 20 | 213 => 184 | 46 => 136 | 232 => 190 | 233 => 191 | n => n, fun | 17 => 3 | 18 => 4 | 19 => 5 | n => n⟩
def Tryz.laysM249_ren : Go.Shelf.Ren := ⟨fun | 249 => 99 | 288 => 127 | 283 => 123 | 284 => 124 | 285 => 125 | 286 => 126 | 129 => 135 | 317 => 134 | 318 => 136 | 319 => 137 | 320 => 138 | 337 => 142 | 338 => 143 | n => n, fun | 37 => 104 | 2 => 2 | 3 => 3 | 53 => 128 | 4 => 4 | 9 => 9 | 171 => 166 | 0 => 0 | 173 => 169 | 212 => 183 | 51 => 173 | 5 => 5 | 20 => 20 | 213 => 184 | 46 => 136 | 232 => 190 | 233 => 191 | n => n, fun | 17 => 3 | 18 => 4 | 19 => 5 | n => n⟩
def Tryz.laysM176_ren : Go.Shelf.Ren := ⟨fun | 176 => 71 | 249 => 99 | 288 => 127 | 283 => 123 | 284 => 124 | 285 => 125 | 286 => 126 | 129 => 135 | 317 => 134 | 318 => 136 | 319 => 137 | 320 => 138 | 337 => 142 | 338 => 143 | n => n, fun | 37 => 104 | 2 => 2 | 3 => 3 | 53 => 128 | 4 => 4 | 9 => 9 | 171 => 166 | 0 => 0 | 173 => 169 | 212 => 183 | 51 => 173 | 5 => 5 | 20 => 20 | 213 => 184 | 46 => 136 | 232 => 190 | 233 => 191 | n => n, fun | 17 => 3 | 18 => 4 | 19 => 5 | n => n⟩
theorem Tryz.laysM176 : Go.Proofs.LaysM.n176 Tryz.prog Tryz.laysM176_ren := {
 mixed := by kernel_rfl
 f129 := Tryz.func135.trans (congrArg some (by kernel_rfl))
 f176 := Tryz.func71.trans (congrArg some (by kernel_rfl))
 f249 := Tryz.func99.trans (congrArg some (by kernel_rfl))
 f283 := Tryz.func123.trans (congrArg some (by kernel_rfl))
 f284 := Tryz.func124.trans (congrArg some (by kernel_rfl))
 f285 := Tryz.func125.trans (congrArg some (by kernel_rfl))
 f286 := Tryz.func126.trans (congrArg some (by kernel_rfl))
 f288 := Tryz.func127.trans (congrArg some (by kernel_rfl))
 f317 := Tryz.func134.trans (congrArg some (by kernel_rfl))
 f318 := Tryz.func136.trans (congrArg some (by kernel_rfl))
 f319 := Tryz.func137.trans (congrArg some (by kernel_rfl))
 f320 := Tryz.func138.trans (congrArg some (by kernel_rfl))
 f337 := Tryz.func142.trans (congrArg some (by kernel_rfl))
 f338 := Tryz.func143.trans (congrArg some (by kernel_rfl))
 t0 := Tryz.underlying0
 a0 := Tryz.isAgg0
 z0 := Tryz.sizeOf0
 v0 := Tryz.zeroValue0
 t2 := Tryz.underlying2
 a2 := Tryz.isAgg2
 z2 := Tryz.sizeOf2
 v2 := Tryz.zeroValue2
 t3 := Tryz.underlying3
 a3 := Tryz.isAgg3
 z3 := Tryz.sizeOf3
 v3 := Tryz.zeroValue3
 t4 := Tryz.underlying4
 a4 := Tryz.isAgg4
 z4 := Tryz.sizeOf4
 v4 := Tryz.zeroValue4
 t5 := Tryz.underlying5
 a5 := Tryz.isAgg5
 z5 := Tryz.sizeOf5
 v5 := Tryz.zeroValue5
 t9 := Tryz.underlying9
 a9 := Tryz.isAgg9
 z9 := Tryz.sizeOf9
 v9 := Tryz.zeroValue9
 t20 := Tryz.underlying20
 a20 := Tryz.isAgg20
 z20 := Tryz.sizeOf20
 v20 := Tryz.zeroValue20
 t37 := Tryz.underlying104
 a37 := Tryz.isAgg104
 z37 := Tryz.sizeOf104
 v37 := Tryz.zeroValue104
 t46 := Tryz.underlying136
 a46 := Tryz.isAgg136
 z46 := Tryz.sizeOf136
 v46 := Tryz.zeroValue136
 t51 := Tryz.underlying173
 a51 := Tryz.isAgg173
 z51 := Tryz.sizeOf173
 v51 := Tryz.zeroValue173
 t53 := Tryz.underlying128
 a53 := Tryz.isAgg128
 z53 := Tryz.sizeOf128
 v53 := Tryz.zeroValue128
 t171 := Tryz.underlying166
 a171 := Tryz.isAgg166
 z171 := Tryz.sizeOf166
 v171 := Tryz.zeroValue166
 t173 := Tryz.underlying169
 a173 := Tryz.isAgg169
 z173 := Tryz.sizeOf169
 v173 := Tryz.zeroValue169
 t212 := Tryz.underlying183
 a212 := Tryz.isAgg183
 z212 := Tryz.sizeOf183
 v212 := Tryz.zeroValue183
 t213 := Tryz.underlying184
 a213 := Tryz.isAgg184
 z213 := Tryz.sizeOf184
 t232 := Tryz.underlying190
 a232 := Tryz.isAgg190
 z232 := Tryz.sizeOf190
 v232 := Tryz.zeroValue190
 t233 := Tryz.underlying191
 a233 := Tryz.isAgg191
 z233 := Tryz.sizeOf191
 v233 := Tryz.zeroValue191
 g17 := by kernel_rfl
 g18 := by kernel_rfl
 g19 := by kernel_rfl
 i0 := by kernel_rfl
 i2 := by kernel_rfl
 i3 := by kernel_rfl
 i4 := by kernel_rfl
 i5 := by kernel_rfl
 i9 := by kernel_rfl
 i20 := by kernel_rfl
 i37 := by kernel_rfl
 i46 := by kernel_rfl
 i51 := by kernel_rfl
 i53 := by kernel_rfl
 i171 := by kernel_rfl
 i173 := by kernel_rfl
 i212 := by kernel_rfl
 i232 := by kernel_rfl
 i233 := by kernel_rfl
 m17 := by kernel_rfl
 m18 := by kernel_rfl
 m19 := by kernel_rfl }
open Go.RowKit Go.Sort Go.Lib in
theorem Tryz.strconv_AppendInt_10 (B n : Nat) (i : Int) (h0 : -9223372036854775808 ≤ i) (h1 : i ≤ 9223372036854775807) (sv : Value) (xs : List Value) (w : World) (hown : w.ownsRow B 5 1 sv n xs) (hBw : B ≤ w.heap.size) (hlim : n + 21 ≤ 140737488355328) (htab : Lib.TabBelow Tryz.prog B w "internal/strconv.uint64pow10" .u64 Lib.pow10Tab) :
  Calls Tryz.prog 71 #[sv, .int .i64 i, .int .i64 10] w fun e w' => ∃ v', e = .returned v' ∧ w'.ownsRow B 5 1 v' (n + (Lib.itoa i).length) (xs ++ Lib.byteCells (Lib.itoa i)) ∧ Below B w w' ∧ Lib.OthersKept 5 none w w' := Any.strconv_AppendInt_10 Tryz.laysM176 B n i h0 h1 sv xs w hown hBw hlim htab
def Tryz.lays206_ren : Go.Shelf.Ren := ⟨fun | 206 => 69 | n => n, fun | 9 => 9 | 4 => 4 | 3 => 3 | n => n, fun | n => n⟩
def Tryz.lays99_ren : Go.Shelf.Ren := ⟨fun | 99 => 40 | 206 => 69 | n => n, fun | 9 => 9 | 4 => 4 | 3 => 3 | n => n, fun | n => n⟩
theorem Tryz.lays99 : Go.Proofs.Lays.n99 Tryz.prog Tryz.lays99_ren := {
 mixed := by kernel_rfl
 f99 := Tryz.func40.trans (congrArg some (by kernel_rfl))
 f206 := Tryz.func69.trans (congrArg some (by kernel_rfl))
 t3 := Tryz.underlying3
 a3 := Tryz.isAgg3
 z3 := Tryz.sizeOf3
 v3 := Tryz.zeroValue3
 t4 := Tryz.underlying4
 a4 := Tryz.isAgg4
 z4 := Tryz.sizeOf4
 v4 := Tryz.zeroValue4
 t9 := Tryz.underlying9
 a9 := Tryz.isAgg9
 z9 := Tryz.sizeOf9
 v9 := Tryz.zeroValue9 }
open Go.RowKit Go.Lib in
theorem Tryz.strings_HasPrefix (s p : ByteArray) (w : World) :
  Calls Tryz.prog 40 #[.string s, .string p] w fun e w' => e = .returned (.bool (Lib.hasPrefix s.data.toList p.data.toList)) ∧ w' = w := Any.strings_HasPrefix Tryz.lays99 s p w
def Tryz.lays207_ren : Go.Shelf.Ren := ⟨fun | 207 => 98 | n => n, fun | 9 => 9 | 4 => 4 | 3 => 3 | n => n, fun | n => n⟩
def Tryz.lays111_ren : Go.Shelf.Ren := ⟨fun | 111 => 47 | n => n, fun | 28 => 22 | 3 => 3 | 4 => 4 | 0 => 0 | n => n, fun | n => n⟩
end Go.Proofs
/- Plain facts on integers, greatest common divisors and rational numbers: what the functions of package ratio compute. No program in sight. -/
namespace Go.Proofs.YtginnonjdbpamaaGreatDoor
theorem gcd_step (x y : Int) (hx : 0 ≤ x) (hy : 0 ≤ y) : Int.gcd y (x % y) = Int.gcd x y := by
 obtain ⟨a, rfl⟩ := Int.eq_ofNat_of_zero_le hx
 obtain ⟨b, rfl⟩ := Int.eq_ofNat_of_zero_le hy
 rw [← Int.natCast_emod]
 simp only [Int.gcd, Int.natAbs_natCast]
 rw [Nat.gcd_comm a b, Nat.gcd_comm b (a % b), ← Nat.gcd_rec]
def mag (n : Int) : Int := n.natAbs
theorem mag_neg {n : Int} (h : n < 0) : mag n = -n := by unfold mag; omega
theorem mag_pos {n : Int} (h : 0 ≤ n) : mag n = n := by unfold mag; omega
theorem mag_bd {n : Int} (h1 : -9223372036854775808 ≤ n) (h2 : n ≤ 9223372036854775807) : 0 ≤ mag n ∧ mag n ≤ 9223372036854775808 := by unfold mag; omega
theorem gcd_mag (a b : Int) : Int.gcd (mag a) (mag b) = Int.gcd a b := by simp [mag, Int.gcd]
def vld (n d : Int) : Bool := decide (1 ≤ d ∧ d ≤ 1000000 ∧ -1000000000000 ≤ n ∧ n ≤ 1000000000000 ∧ Int.gcd n d = 1)
theorem vld_no {n d : Int} (h : ¬ (1 ≤ d ∧ d ≤ 1000000 ∧ -1000000000000 ≤ n ∧ n ≤ 1000000000000 ∧ Int.gcd n d = 1)) : vld n d = false := by simp [vld, h]
def inR (q : Rat) : Bool := decide (-1000000000000 ≤ q.num ∧ q.num ≤ 1000000000000 ∧ q.den ≤ 1000000)
def oN (q : Rat) : Int := if inR q then q.num else 0
def oD (q : Rat) : Int := if inR q then q.den else 0
def oE (q : Rat) : Int := if inR q then 0 else 2
end Go.Proofs.YtginnonjdbpamaaGreatDoor
/- Contracts and patches as plain data: which contracts are valid, and what a patch makes of one. No program in sight. -/
namespace Go.Proofs.YtginnonjdbpamaaGreatDoor
structure Uni where
 nm : ByteArray
 kind : Int
 base : Int
 f : Int × Int
 deriving DecidableEq
structure Atc where
 kind : Int
 role : Int
 give : Int
 to_ : Int
 unit : Int
 lot : Int × Int
 deriving DecidableEq
structure Cla where
 kind : Int
 role : Int
 act : Int
 need : Int
 start : List (Int × Int)
 aft : Int
 grace : Int
 bus : Bool
 fin : Bool
 pause : Int
 resume : Int
 v : Int × Int
 unit : Int
 to_ : Int
 waived : Bool
 deriving DecidableEq
structure Con where
 par : Int
 hold : List Int
 un : List Uni
 ac : List Atc
 cl : List Cla
 days : Int
 off : List Int
 deriving DecidableEq
structure Pat where
 kind : Int
 cls : List Int
 new : Cla
 days : Int
 deriving DecidableEq
def isI (i : Int) (n : Nat) : Bool := decide (0 ≤ i) && decide (i < n)
theorem xCb {i : Int} {n : Nat} : isI i n = true ↔ 0 ≤ i ∧ i < n := by simp [isI]
def zer (r : Int × Int) : Bool := r.1 == 0 && r.2 == 1
def psv (r : Int × Int) : Bool := decide (0 < r.1) && vld r.1 r.2
def xFw (t : List Uni) (i : Nat) (u : Uni) : Bool :=
 decide (i < 20) && !(u.nm.toList == []) && (t.take i).all (fun o => !(o.nm.toList == u.nm.toList)) && (u.kind == 1 || u.kind == 2) && vld u.f.1 u.f.2 && decide (0 < u.f.1) &&
  isI u.base t.length && (match t[u.base.toNat]? with | some b => b.kind == u.kind && b.base == u.base | none => false) && (u.base != (i : Int) || (u.f.1 == 1 && u.f.2 == 1))
def xGo (t : List Uni) : Nat → List Uni → Bool
 | _, [] => true
 | i, u :: r => xFw t i u && xGo t (i + 1) r
def Con.mov (c : Con) (r : Int) : Bool := isI r c.hold.length
def Con.actOk (c : Con) (a : Atc) : Bool :=
 if c.mov a.role then
  if a.kind == 1 then
   a.give == 0 && (a.to_ == -1 || c.mov a.to_) && (if a.unit == -1 then zer a.lot else isI a.unit c.un.length && psv a.lot)
  else (a.kind == 2 || a.kind == 3) && c.mov a.give && decide (0 ≤ a.to_) && decide (a.to_ < c.par) && a.unit == -1 && zer a.lot
 else a.kind == 1 && a.role == -1 && a.give == 0 && (a.to_ == -1 || c.mov a.to_) && a.unit == -1 && zer a.lot
def incO (days : Int) : Int → List Int → Bool
 | _, [] => true
 | last, d :: l => decide (last < d) && decide (d < days) && incO days d l
def Con.framed (c : Con) : Bool :=
 decide (1 ≤ c.par) && decide (1 ≤ c.days) && decide (0 < c.hold.length) && c.hold.all (fun h => decide (0 ≤ h) && decide (h < c.par)) && xGo c.un 0 c.un && c.ac.all c.actOk && incO c.days (-1) c.off
def Con.nat (c : Con) (a : Int) : Bool := isI a c.ac.length && (match c.ac[a.toNat]? with | some x => x.kind == 1 && x.role == -1 | none => false)
def Con.kindOk (c : Con) (k : Cla) : Bool :=
 if k.kind == 4 then k.role == -1 && k.need == 1 && k.grace == 0 && !k.fin
 else c.mov k.role && !c.nat k.act && (
  if k.kind == 1 then decide (1 ≤ k.need) && decide (k.need ≤ 9) && decide (0 ≤ k.grace) && decide (k.grace ≤ 400)
  else if k.kind == 2 then k.need == 1 && k.grace == 0
  else k.kind == 3 && k.need == 1 && k.grace == 0 && !k.fin)
def xB7 (n i : Nat) (s : Int × Int) : Bool := isI s.1 n && s.1 != (i : Int) && decide (1 ≤ s.2) && decide (s.2 ≤ 4)
def Con.pauseOk (c : Con) (k : Cla) : Bool := (k.pause == -1 && k.resume == -1) || (k.pause != k.resume && c.nat k.pause && c.nat k.resume)
def Con.costOk (c : Con) (k : Cla) : Bool :=
 if k.unit == -1 then zer k.v && k.to_ == -1
 else (k.kind == 1 || k.kind == 2) && isI k.unit c.un.length && (match c.un[k.unit.toNat]? with | some u => u.kind == 2 | none => false) && psv k.v && c.mov k.to_
def Con.claOk (c : Con) (i : Nat) (k : Cla) : Bool :=
 isI k.act c.ac.length && decide (1 ≤ k.aft) && decide (k.aft ≤ 400) && c.kindOk k && decide (k.start.length ≤ 8) && k.start.all (xB7 c.cl.length i) && c.pauseOk k && c.costOk k
def Con.clsOk (c : Con) : Nat → List Cla → Bool
 | _, [] => true
 | i, k :: r => c.claOk i k && c.clsOk (i + 1) r
def Con.lim (c : Con) : Bool := decide (c.par ≤ 12) && decide (c.days ≤ 2000) && decide (c.hold.length ≤ 12) && decide (c.un.length ≤ 20) && decide (c.ac.length ≤ 60) && decide (c.cl.length ≤ 400)
def Con.ok (c : Con) : Bool := c.lim && c.framed && c.clsOk 0 c.cl
theorem Con.clsOk_iff (c : Con) : ∀ (l : List Cla) (i : Nat), c.clsOk i l = true ↔ ∀ j k, l[j]? = some k → c.claOk (i + j) k = true
 | [], i => by simp [Con.clsOk]
 | k :: l, i => by
  simp only [Con.clsOk, Bool.and_eq_true]
  rw [Con.clsOk_iff c l (i + 1)]
  constructor
  ·rintro ⟨h1, h2⟩ j x hx
   cases j with
   | zero => simp at hx; subst hx; exact h1
   | succ j => rw [show i + (j + 1) = i + 1 + j by omega]; exact h2 j x (by simpa using hx)
  ·intro h
   exact ⟨h 0 k rfl, fun j x hx => by rw [show i + 1 + j = i + (j + 1) by omega]; exact h (j + 1) x (by simpa using hx)⟩
theorem Con.framed_same {c d : Con} (h0 : c.par = d.par) (h1 : c.hold = d.hold) (h2 : c.un = d.un) (h3 : c.ac = d.ac) (h4 : c.days = d.days) (h5 : c.off = d.off) : c.framed = d.framed := by
 have : c.actOk = d.actOk := by funext a; unfold Con.actOk Con.mov; rw [h0, h1, h2]
 unfold Con.framed
 rw [this, h0, h1, h2, h3, h4, h5]
def zeroC (k : Cla) : Bool := decide (k.start.length = 0) && k.kind == 0 && k.role == 0 && k.act == 0 && k.need == 0 && k.aft == 0 && k.grace == 0 && !k.bus && !k.fin && k.pause == 0 && k.resume == 0 && (k.v.1 == 0 && k.v.2 == 0) && k.unit == 0 && k.to_ == 0 && !k.waived
def incI (n : Nat) : Int → List Int → Bool
 | _, [] => true
 | last, d :: l => decide (last < d) && decide (d < n) && incI n d l
def xC3 (k : Int) : Bool := k == 1 || k == 2 || k == 3 || k == 4 || k == 5
def fewest (k : Int) : Nat := if k == 1 then 0 else 1
def mostN (k : Int) : Nat := if k == 1 then 0 else if k == 2 || k == 3 then 1 else 400
def Pat.fits (p : Pat) (n : Nat) : Bool :=
 decide (fewest p.kind ≤ p.cls.length) && decide (p.cls.length ≤ mostN p.kind) && incI n (-1) p.cls && (p.kind == 1 || p.kind == 2 || zeroC p.new) && (if p.kind == 5 then decide (1 ≤ p.days) && decide (p.days ≤ 400) else p.days == 0)
def Pat.one (p : Pat) (k : Cla) : Cla := if p.kind == 2 then p.new else if p.kind == 5 then { k with aft := p.days } else { k with waived := true }
def Pat.do_ (p : Pat) (l : List Cla) : List Cla := if p.kind == 1 then l ++ [p.new] else p.cls.foldl (fun l i => l.modify i.toNat p.one) l
def Con.wc (c : Con) (l : List Cla) : Con := { c with cl := l }
def Con.apE (c : Con) (p : Pat) : Int :=
 if c.ok && xC3 p.kind && p.fits c.cl.length then (if p.kind == 1 && c.cl.length == 400 then 3 else if (c.wc (p.do_ c.cl)).ok then 0 else 1) else 1
def Con.ap (c : Con) (p : Pat) : Con := c.wc (p.do_ c.cl)
end Go.Proofs.YtginnonjdbpamaaGreatDoor
