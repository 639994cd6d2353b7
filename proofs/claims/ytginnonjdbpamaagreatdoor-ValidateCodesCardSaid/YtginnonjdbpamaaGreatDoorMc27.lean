/- Contracts of functions and plain laws, joined: Wt4. -/
import Derived.Test.YtginnonjdbpamaaGreatDoorMc21
import Derived.Test.YtginnonjdbpamaaGreatDoorMc26
import Derived.Test.YtginnonjdbpamaaGreatDoorMc18
/- What lies in memory while validate.Decode xCt a text. -/
import Derived.Test.YtginnonjdbpamaaGreatDoorMc1
namespace Go.Proofs.YtginnonjdbpamaaGreatDoor
open Go.RowKit Go.Sort
structure Dm (w W : World) (N br bg bs bz : Nat) (rest : List UInt8) (good : Bool) (d : Int) (vh vu vm : Value) (hol : List Int) (us : List Bool) (ms : List Mk) : Prop where
 r : Blk W br 9 #[.string (tBy rest)]
 g : Blk W bg 4 #[.bool good]
 s : Blk W bs 43 #[.int .i64 d, vh, vu, vm]
 z : Blk W bz 43 #[.int .i64 0, .slice none 0 0, .slice none 0 0, .slice none 0 0]
 oh : Own W N 3 1 eI vh hol
 ou : Own W N 4 1 eB vu us
 om : Own W N 46 5 eM vm ms
 b : Below w.heap.size w W
 l : w.heap.size ≤ N ∧ N ≤ W.heap.size ∧ br < N ∧ bg < N ∧ bz < N ∧ bs ≠ bz ∧ w.heap.size ≤ bs ∧ w.heap.size ≤ br ∧ w.heap.size ≤ bg ∧ w.heap.size ≤ bz
section
variable {w W W' : World} {N br bg bs bz : Nat} {rest rest' : List UInt8} {good good' : Bool} {d : Int} {vh vu vm v' : Value} {hol : List Int} {us : List Bool} {ms : List Mk}
theorem Dm.then_ (h : Dm w W N br bg bs bz rest good d vh vu vm hol us ms) (hb : Below W.heap.size W W') : Dm w W' N br bg bs bz rest good d vh vu vm hol us ms :=
 ⟨h.r.then_ hb, h.g.then_ hb, h.s.then_ hb, h.z.then_ hb, h.oh.below hb, h.ou.below hb, h.om.below hb, xAa h.b hb, by have := h.l; have := hb.size; omega⟩
theorem Dm.keep (h : Dm w W N br bg bs bz rest good d vh vu vm hol us ms) {p : Nat → Prop} (hk : Kept W W' p) (hp : ∀ x, p x → x = br ∨ x = bg) (hr : Blk W' br 9 #[.string (tBy rest')]) (hg : Blk W' bg 4 #[.bool good']) : Dm w W' N br bg bs bz rest' good' d vh vu vm hol us ms := by
 have l := h.l
 have n1 : bs ≠ br := xAw h.s h.r (by decide)
 have n2 : bs ≠ bg := xAw h.s h.g (by decide)
 have n3 : bz ≠ br := xAw h.z h.r (by decide)
 have n4 : bz ≠ bg := xAw h.z h.g (by decide)
 have hN : ∀ x, p x → x < N := fun x hx => by rcases hp x hx with rfl | rfl <;> omega
 refine ⟨hr, hg, h.s.kept hk (fun e => by rcases hp _ e with e | e; exact n1 e; exact n2 e), h.z.kept hk (fun e => by rcases hp _ e with e | e; exact n3 e; exact n4 e), h.oh.keepP hk hN, h.ou.keepP hk hN, h.om.keepP hk hN, h.b.trans (hk.b _ (fun x hx => by rcases hp x hx with rfl | rfl <;> omega) h.b.size), ?_⟩
 have := hk.size
 omega
theorem Dm.take (h : Dm w W N br bg bs bz rest good d vh vu vm hol us ms) (hL : Lw w) (e : UInt8) (hr : rest.length ≤ 1000000) {c1 c2 : List UInt8} {c3 : Bool} (hc : Lib.cut rest [e] = (c1, c2, c3)) :
  Calls Tryz.prog 35 #[.string ⟨#[e]⟩, .pointer (some ⟨br, 0, none⟩), .pointer (some ⟨bg, 0, none⟩)] W fun x w' => x = .returned (.string (tBy c1)) ∧ Dm w w' N br bg bs bz c2 (good && c3) d vh vu vm hol us ms ∧ Kept W w' (pRG br bg) := by
 have h1 := take_any br bg e rest good W (hL.below h.b) hr h.r h.g
 rw [hc] at h1
 exact h1.mono fun x w' ⟨h2, h3, h4, h5⟩ => ⟨h2, h.keep h5 (fun _ hx => hx) h3 h4, h5⟩
theorem Dm.number (h : Dm w W N br bg bs bz rest good d vh vu vm hol us ms) (hL : Lw w) (t : List UInt8) (ht : t.length ≤ 1000000) :
  Calls Tryz.prog 37 #[.string (tBy t), .pointer (some ⟨bg, 0, none⟩)] W fun x w' => ∃ n, x = .returned (.int .i64 n) ∧ (numO t = true → n = numD t) ∧ Dm w w' N br bg bs bz rest (good && numO t) d vh vu vm hol us ms ∧ Kept W w' (pRG br bg) :=
 (xF9 bg t good W (hL.below h.b) ht h.g).mono fun x w' ⟨n, h1, h2, h3, h4⟩ => ⟨n, h1, h2, h.keep h4 (fun _ hx => .inr hx) (h.r.kept h4 (fun e => xAw h.r h.g (by decide) e)) h3, h4.weak fun _ hx => .inr hx⟩
theorem Dm.grow {α : Type} {T : TypeId} {size : Nat} {enc : α → List Value} {v : Value} {xs : List α} (h : Dm w W N br bg bs bz rest good d vh vu vm hol us ms) (hO : Own W N T size enc v xs) (hT : T = 3 ∨ T = 4 ∨ T = 46) (hg : W.grownBy W' v.ownBlock) (hb : Below N W W') :
  Blk W' br 9 #[.string (tBy rest)] ∧ Blk W' bg 4 #[.bool good] ∧ Blk W' bs 43 #[.int .i64 d, vh, vu, vm] ∧ Blk W' bz 43 #[.int .i64 0, .slice none 0 0, .slice none 0 0, .slice none 0 0] ∧ Below w.heap.size w W' := by
 have l := h.l
 refine ⟨h.r.below hb l.2.2.1, h.g.below hb l.2.2.2.1, h.s.grownT hO (by rcases hT with rfl | rfl | rfl <;> decide) hg, h.z.below hb l.2.2.2.2.1, h.b.trans (hb.mono l.1)⟩
theorem Own.keepNe {α : Type} {w w' : World} {N : Nat} {T : TypeId} {size : Nat} {enc : α → List Value} {v : Value} {xs : List α} {p : Nat → Prop} (h : Own w N T size enc v xs) (hk : Kept w w' p) (hp : ∀ x, v.ownBlock = some x → ¬ p x) : Own w' N T size enc v xs := by
 refine ⟨h.1, ?_⟩
 rcases h.2 with h2 | ⟨g', cap', cur, hv, hg', hh, r⟩
 ·exact .inl h2
 ·exact .inr ⟨g', cap', cur, hv, hg', by rw [hk.k g' (Array.getElem?_eq_some_iff.1 hh).1 (hp g' (by rw [hv]; rfl))]; exact hh, r⟩
theorem Own.own_ne {α β : Type} {w : World} {B B' : Nat} {T T' : TypeId} {size size' : Nat} {enc : α → List Value} {enc' : β → List Value} {v v' : Value} {xs : List α} {ys : List β} (h : Own w B T size enc v xs) (h' : Own w B' T' size' enc' v' ys) (ht : T ≠ T') {x : Nat} (hv : v.ownBlock = some x) : v'.ownBlock ≠ some x := fun hv' => by
 obtain ⟨c, fz, e⟩ := xEw h x hv
 obtain ⟨c', fz', e'⟩ := xEw h' x hv'
 rw [e] at e'
 injection e' with e'
 injection e' with _ e2 _
 exact ht e2
theorem Own.iter_ne {α : Type} {w : World} {B : Nat} {T : TypeId} {size : Nat} {enc : α → List Value} {v : Value} {xs : List α} (h : Own w B T size enc v xs) {k : Nat} {s : ByteArray} {pos : Nat} (hk : w.heap[k]? = some (.stringIter s pos)) {x : Nat} (hv : v.ownBlock = some x) : x ≠ k := fun e => by
 obtain ⟨c, fz, e1⟩ := xEw h x hv
 rw [e, hk] at e1
 cases e1
theorem Blk.iter_ne {w : World} {g : Nat} {t : TypeId} {cs : Array Value} (h : Blk w g t cs) {k : Nat} {s : ByteArray} {pos : Nat} (hk : w.heap[k]? = some (.stringIter s pos)) : g ≠ k := fun e => by
 have h2 : w.heap[g]? = _ := h
 rw [e, hk] at h2
 cases h2
theorem upd_iter (W : World) {k : Nat} {s : ByteArray} {pos : Nat} (pos' : Nat) (_hk : W.heap[k]? = some (.stringIter s pos)) : Upd W (W.iterAt k s pos') k :=
 ⟨fun _B hB => Lib.below_iterAt (Below.refl _ _) hB s pos', fun x hx => Lib.iterAt_other W k x s pos' hx, Lib.iterAt_size W k s pos'⟩
theorem Dm.iter (h : Dm w W N br bg bs bz rest good d vh vu vm hol us ms) {k : Nat} {s : ByteArray} {pos : Nat} (pos' : Nat) (hk : W.heap[k]? = some (.stringIter s pos)) (hkw : w.heap.size ≤ k) : Dm w (W.iterAt k s pos') N br bg bs bz rest good d vh vu vm hol us ms := by
 have u := upd_iter W pos' hk
 exact ⟨h.r.upd u (h.r.iter_ne hk), h.g.upd u (h.g.iter_ne hk), h.s.upd u (h.s.iter_ne hk), h.z.upd u (h.z.iter_ne hk), h.oh.upd u fun x hx => h.oh.iter_ne hk hx, h.ou.upd u fun x hx => h.ou.iter_ne hk hx, h.om.upd u fun x hx => h.om.iter_ne hk hx, h.b.trans (u.b _ hkw), by have := h.l; rw [u.s]; exact this⟩
theorem Dm.updG (h : Dm w W N br bg bs bz rest good d vh vu vm hol us ms) {g : Nat} (u : Upd W W' g) (hg : w.heap.size ≤ g) (hn : br ≠ g ∧ bg ≠ g ∧ bs ≠ g ∧ bz ≠ g) (hr : ∀ x, vh.ownBlock = some x ∨ vu.ownBlock = some x ∨ vm.ownBlock = some x → x ≠ g) : Dm w W' N br bg bs bz rest good d vh vu vm hol us ms :=
 ⟨h.r.upd u hn.1, h.g.upd u hn.2.1, h.s.upd u hn.2.2.1, h.z.upd u hn.2.2.2, h.oh.upd u fun x hx => hr x (.inl hx), h.ou.upd u fun x hx => hr x (.inr (.inl hx)), h.om.upd u fun x hx => hr x (.inr (.inr hx)), h.b.trans (u.b _ hg), by have := h.l; rw [u.s]; exact this⟩
theorem Dm.lts (h : Dm w W N br bg bs bz rest good d vh vu vm hol us ms) : (br < W.heap.size ∧ bg < W.heap.size ∧ bs < W.heap.size ∧ bz < W.heap.size) ∧ ∀ x, vh.ownBlock = some x ∨ vu.ownBlock = some x ∨ vm.ownBlock = some x → x < W.heap.size :=
 ⟨⟨h.r.lt, h.g.lt, h.s.lt, h.z.lt⟩, fun x hx => by
  rcases hx with hx | hx | hx
  ·exact (World.ownsRow.lt h.oh x hx).2
  ·exact (World.ownsRow.lt h.ou x hx).2
  ·exact (World.ownsRow.lt h.om x hx).2⟩
theorem Dm.setG (h : Dm w W N br bg bs bz rest good d vh vu vm hol us ms) (b : Bool) : Dm w (W.setCell ⟨bg, 0, none⟩ (.bool b)) N br bg bs bz rest b d vh vu vm hol us ms :=
 h.keep (p := fun x => x = bg) ((Kept.refl _ _).setCell rfl) (fun _ hx => .inr hx) (h.r.far (p := ⟨bg, 0, none⟩) (xAw h.r h.g (by decide)) _) (h.g.set_ 0 (.bool b))
theorem Dm.putU (h : Dm w W N br bg bs bz rest good d vh vu vm hol us ms) {y : Bool} (hO : Own W' N 4 1 eB v' (us ++ [y])) (hg : W.grownBy W' vu.ownBlock) (hb : Below N W W') : Dm w (W'.setCell ⟨bs, 2, none⟩ v') N br bg bs bz rest good d vh v' vm hol (us ++ [y]) ms := by
 obtain ⟨r4, g4, s4, z4, b4⟩ := h.grow h.ou (.inr (.inl rfl)) hg hb
 have k := Kept.grown hg
 have lN := h.l
 have u := (Upd.refl W' bs).setCell 2 v'
 have o1 := h.oh.keepNe k (fun x hx => Own.own_ne h.oh h.ou (by decide) hx)
 have o3 := h.om.keepNe k (fun x hx => Own.own_ne h.om h.ou (by decide) hx)
 refine ⟨r4.upd u (xAw r4 s4 (by decide)), g4.upd u (xAw g4 s4 (by decide)), ?_, z4.upd u lN.2.2.2.2.2.1.symm, o1.upd u (fun x hx e => Own.blk_ne_row s4 o1 (by decide) hx e.symm), hO.upd u (fun x hx e => Own.blk_ne_row s4 hO (by decide) hx e.symm), o3.upd u (fun x hx e => Own.blk_ne_row s4 o3 (by decide) hx e.symm), b4.trans (u.b _ lN.2.2.2.2.2.2.1), ?_⟩
 ·have h5 := s4.set_ 2 v'
  simpa using h5
 ·have := hb.size
  rw [u.s]
  omega
theorem Dm.putM (h : Dm w W N br bg bs bz rest good d vh vu vm hol us ms) {y : Mk} (hO : Own W' N 46 5 eM v' (ms ++ [y])) (hg : W.grownBy W' vm.ownBlock) (hb : Below N W W') : Dm w (W'.setCell ⟨bs, 3, none⟩ v') N br bg bs bz rest good d vh vu v' hol us (ms ++ [y]) := by
 obtain ⟨r4, g4, s4, z4, b4⟩ := h.grow h.om (.inr (.inr rfl)) hg hb
 have k := Kept.grown hg
 have lN := h.l
 have u := (Upd.refl W' bs).setCell 3 v'
 have o1 := h.oh.keepNe k (fun x hx => Own.own_ne h.oh h.om (by decide) hx)
 have o3 := h.ou.keepNe k (fun x hx => Own.own_ne h.ou h.om (by decide) hx)
 refine ⟨r4.upd u (xAw r4 s4 (by decide)), g4.upd u (xAw g4 s4 (by decide)), ?_, z4.upd u lN.2.2.2.2.2.1.symm, o1.upd u (fun x hx e => Own.blk_ne_row s4 o1 (by decide) hx e.symm), o3.upd u (fun x hx e => Own.blk_ne_row s4 o3 (by decide) hx e.symm), hO.upd u (fun x hx e => Own.blk_ne_row s4 hO (by decide) hx e.symm), b4.trans (u.b _ lN.2.2.2.2.2.2.1), ?_⟩
 ·have h5 := s4.set_ 3 v'
  simpa using h5
 ·have := hb.size
  rw [u.s]
  omega
end
def okc (c : UInt8) : Bool := c == 48 || c == 49
theorem rune_step (l : List UInt8) (pos : Nat) (h : pos < l.length) : ∃ (r d : Nat), Utf8.decode (tBy l) pos = (r, d) ∧ 1 ≤ d ∧ (l.take (pos + d)).all okc = ((l.take pos).all okc && (decide ((r : Int) = 48) || decide ((r : Int) = 49))) ∧
  ((l.take (pos + d)).all okc = true → (l.take (pos + d)).map (· == 49) = (l.take pos).map (· == 49) ++ [decide ((r : Int) = 49)]) ∧ r ≤ 2147483647 := by
 have hs : pos < (tBy l).size := by rw [xBe]; exact h
 have hb : (tBy l)[pos]'hs = l[pos]'h := by simp [tBy]; rfl
 by_cases hc : ((tBy l)[pos]'hs).toNat < 128
 ·refine ⟨_, _, decode_ascii (tBy l) pos hs hc, Nat.le_refl _, ?_, ?_, by omega⟩
  ·rw [hb, List.take_add_one, qzJ h]
   simp only [qzD, List.all_append, List.all_cons, List.all_nil, Bool.and_true]
   congr 1
   unfold okc
   have e : ∀ n : Nat, n < 256 → (l[pos] == UInt8.ofNat n) = decide (((l[pos].toNat : Nat) : Int) = (n : Int)) := fun n hn => by
    rw [Bool.eq_iff_iff, beq_iff_eq, decide_eq_true_eq]
    constructor
    ·intro e; rw [e]; simp; omega
    ·intro e
     apply UInt8.toNat_inj.1
     simp
     omega
   have e48 := e 48 (by decide)
   have e49 := e 49 (by decide)
   exact congr (congrArg or e48) e49
  ·intro _
   rw [hb, List.take_add_one, qzJ h]
   simp only [qzD, List.map_append, List.map_cons, List.map_nil]
   congr 2
   rw [Bool.eq_iff_iff, beq_iff_eq, decide_eq_true_eq]
   constructor
   ·intro e; rw [e]; rfl
   ·intro e
    apply UInt8.toNat_inj.1
    show l[pos].toNat = 49
    omega
 ·obtain ⟨h1, h2⟩ := decode_high (tBy l) pos hs (by omega)
  have hle := decode_le (tBy l) pos
  have hno : (l.take (pos + (Utf8.decode (tBy l) pos).2)).all okc = false := by
   rw [Bool.eq_false_iff]
   intro ha
   rw [List.all_eq_true] at ha
   obtain ⟨c, hcd⟩ : ∃ c, l[pos]'h = c := ⟨_, rfl⟩
   have hm : c ∈ l.take (pos + (Utf8.decode (tBy l) pos).2) := by
    refine qzK (i := pos) ?_
    rw [List.getElem?_take_of_lt (by omega), qzJ h]
    exact congrArg some hcd
   have hlt : ¬ c.toNat < 128 := by rw [← hcd]; rw [hb] at hc; exact hc
   have := ha _ hm
   unfold okc at this
   rw [Bool.or_eq_true, beq_iff_eq, beq_iff_eq] at this
   rcases this with rfl | rfl
   ·exact hlt (by decide)
   ·exact hlt (by decide)
  refine ⟨(Utf8.decode (tBy l) pos).1, (Utf8.decode (tBy l) pos).2, rfl, h2, ?_, fun e => ?_, hle⟩
  ·rw [hno, qzN (by omega), qzN (by omega)]
   simp
  ·rw [hno] at e; cases e
end Go.Proofs.YtginnonjdbpamaaGreatDoor
