/- The walk of FileAnyOrder. -/
import Derived.Test.YtemkghgcdpmlbaaDoorMb22
namespace Go.Proofs.YtemkghgcdpmlbaaDoor
open Go.RowKit Go.Sort

/-- the lists of a file that are not empty lie in blocks with the property -/
structure FOffN (p : Nat → Prop) (f : Fil) (m : Fm) : Prop where
  qf : f.facts ≠ [] → ∀ a, m.f = some a → p a.block
  qo : f.ords ≠ [] → ∀ a, m.o = some a → p a.block
theorem FOffN.mono {p q : Nat → Prop} {f : Fil} {m : Fm} (h : FOffN p f m) (hpq : ∀ b, p b → q b) : FOffN q f m := ⟨fun h0 a e => hpq _ (h.qf h0 a e), fun h0 a e => hpq _ (h.qo h0 a e)⟩
theorem FOff.n {p : Nat → Prop} {f : Fil} {m : Fm} (h : FOff p m) : FOffN p f m := ⟨fun _ => h.qf, fun _ => h.qo⟩
theorem seg_lt {α : Type} {w : World} {C size : Nat} {enc : α → List Value} {A : Option Addr} {xs : List α} (hs : Seg w C size enc A xs) (h0 : xs ≠ []) : ∀ a, A = some a → a.block < C := fun a ha => by
  cases xs with
  | nil => exact absurd rfl h0
  | cons x xs =>
    obtain ⟨b, off, e, hb, _⟩ := hs 0 x rfl
    rw [ha] at e
    cases e
    exact hb
theorem Filt.offN {w : World} {f : Fil} {m : Fm} (h : Filt w f m) : FOffN (· < w.heap.size) f m := ⟨seg_lt h.sf, seg_lt h.so⟩
theorem seg_updN {α : Type} {w w' : World} {g C size : Nat} {enc : α → List Value} {A : Option Addr} {xs : List α} (hs : Seg w C size enc A xs) (u : Upd w w' g) (ho : xs ≠ [] → ∀ a, A = some a → a.block ≠ g) : Seg w' C size enc A xs := by
  by_cases h0 : xs = []
  · rw [h0]; exact fun k x hx => by simp at hx
  · exact hs.upd u (ho h0)
theorem Filt.updN {w w' : World} {g : Nat} {f : Fil} {m : Fm} (h : Filt w f m) (u : Upd w w' g) (ho : FOffN (· ≠ g) f m) : Filt w' f m :=
  ⟨by rw [u.s]; exact seg_updN h.sf u ho.qf, by rw [u.s]; exact seg_updN h.so u ho.qo, h.nf, h.no, h.cf, h.co, h.zf, h.zo, h.mf, h.mo⟩
theorem puts_next {c : Con} {f a : Fil} {l : List Fac} {i : Nat} {x : Fac} (hx : l[i]? = some x) (h : f.puts c (l.take i) = some a) (he : a.putE c x = 0) : f.puts c (l.take (i + 1)) = some (a.putF c x) := by
  rw [List.take_add_one, hx]
  show f.puts c (l.take i ++ [x]) = _
  rw [puts_snoc, h]
  simp only [Option.bind_some]
  rw [if_pos he, show a.putF c x = a.put x from if_pos he]
theorem rev_at {l : List Fac} {i : Nat} (h : i < l.length) : l.reverse[i]? = l[l.length - 1 - i]? := List.getElem?_reverse h
set_option maxRecDepth 100000 in
set_option maxHeartbeats 6400000 in
theorem anyorder_law (c : Con) (m : Cm) (f : Fil) (k : Fm) (l : List Fac) (Al : Option Addr) (kl : Nat) (w : World) (hL : Lw w) (hc : ContW w c m) (hf : FilW w f k) (hl : LstM w eF 6 (fun y => y.I64) Al l kl) :
    Calls Tryd.prog 4 #[.agg (coA c m), .agg (flA f k), .slice Al l.length kl] w fun e w' => e = .returned (.bool true) ∧ Below w.heap.size w w' := by
  have HH := Lib.hid (fun W (hb : Below w.heap.size w W) => head_any W (hL.below hb))
  cases hs1 : c.small 60 with
  | false =>
    have HS1 := Lib.hid (fun W (hb : Below w.heap.size w W) => smallc_at c m false hc hs1 W hb)
    clear hc hf hs1 hL hl
    go_enter Tryd.func4, Tryd.ntmps4
    go_upto_region 1 with (fail)
    refine name_wp ?_
    intro X0 hX
    have gbc : Blk X0 w.heap.size 27 (coA c m) := by rw [hX]; exact (blk_at (by simp)).alloc _
    have gbf : Blk X0 (w.heap.size + 1) 31 (flA f k) := by rw [hX]; exact blk_at (by simp)
    have HB0 : Below w.heap.size w X0 := by rw [hX]; (repeat (first | with_reducible assumption | with_reducible exact Below.refl _ _ | with_reducible refine below_drewN ?_ _ | with_reducible refine Below.drew ?_ | with_reducible refine below_alloc ?_ _ | with_reducible refine Below.setCell ?_ (by first | omega | (simp; done) | (simp; omega)) _ | with_reducible refine below_then ?_ (by with_reducible assumption) | (refine below_then (a := World.drew _) ?_ (by with_reducible assumption))))
    clear hX
    obtain ⟨bf, ebf⟩ : ∃ b, w.heap.size + 1 = b := ⟨_, rfl⟩
    obtain ⟨bc, ebc⟩ : ∃ b, w.heap.size = b := ⟨_, rfl⟩
    have lbc : w.heap.size ≤ bc := by omega
    have lbf : w.heap.size ≤ bf := by omega
    have nbcbf : bc ≠ bf := by omega
    rw [ebf] at gbf ⊢
    rw [ebc] at gbc ⊢
    clear ebc ebf
    go_upto_region 2 with ((go_at_call 8; (with_reducible refine (HH.out _ HB0).mono ?_); rintro e w1 ⟨rfl, hbw1⟩))
    have HH1 := hbw1
    have HB1 := below_then HB0 HH1
    have gbc_1 := gbc.then_ HH1
    have gbf_1 := gbf.then_ HH1
    clear gbc gbf HB0 HH1
    go_wp2_with (first | (refine wpList_row_w (by rfl) 27 _ rfl bc rfl 27 _ gbc_1 ⟨_, Tryd.underlying27⟩ (by kernel_rfl) ?_; simp only [Act.put, List.setIfInBounds_toArray, List.set_cons_succ, List.set_cons_zero]) | (go_at_call 9; (with_reducible refine (HS1.out _ HB1).mono ?_); rintro e w2 ⟨rfl, hbw2⟩; have gf2 := gbf_1.then_ hbw2))
    go_ret
    exact ⟨rfl, below_then HB1 hbw2⟩
  | true =>
  have HS1 := Lib.hid (fun W (hb : Below w.heap.size w W) => smallc_at c m true hc hs1 W hb)
  cases hs2 : f.small 200 with
  | false =>
    have HS2 := Lib.hid (fun W => smallf_at f k false hs2 W)
    clear hc hf hs1 hs2 hL hl
    go_enter Tryd.func4, Tryd.ntmps4
    go_upto_region 1 with (fail)
    refine name_wp ?_
    intro X0 hX
    have gbc : Blk X0 w.heap.size 27 (coA c m) := by rw [hX]; exact (blk_at (by simp)).alloc _
    have gbf : Blk X0 (w.heap.size + 1) 31 (flA f k) := by rw [hX]; exact blk_at (by simp)
    have HB0 : Below w.heap.size w X0 := by rw [hX]; (repeat (first | with_reducible assumption | with_reducible exact Below.refl _ _ | with_reducible refine below_drewN ?_ _ | with_reducible refine Below.drew ?_ | with_reducible refine below_alloc ?_ _ | with_reducible refine Below.setCell ?_ (by first | omega | (simp; done) | (simp; omega)) _ | with_reducible refine below_then ?_ (by with_reducible assumption) | (refine below_then (a := World.drew _) ?_ (by with_reducible assumption))))
    clear hX
    obtain ⟨bf, ebf⟩ : ∃ b, w.heap.size + 1 = b := ⟨_, rfl⟩
    obtain ⟨bc, ebc⟩ : ∃ b, w.heap.size = b := ⟨_, rfl⟩
    have lbc : w.heap.size ≤ bc := by omega
    have lbf : w.heap.size ≤ bf := by omega
    have nbcbf : bc ≠ bf := by omega
    rw [ebf] at gbf ⊢
    rw [ebc] at gbc ⊢
    clear ebc ebf
    go_upto_region 2 with ((go_at_call 8; (with_reducible refine (HH.out _ HB0).mono ?_); rintro e w1 ⟨rfl, hbw1⟩))
    have HH1 := hbw1
    have HB1 := below_then HB0 HH1
    have gbc_1 := gbc.then_ HH1
    have gbf_1 := gbf.then_ HH1
    clear gbc gbf HB0 HH1
    go_wp2_with (first | (refine wpList_row_w (by rfl) 27 _ rfl bc rfl 27 _ gbc_1 ⟨_, Tryd.underlying27⟩ (by kernel_rfl) ?_; simp only [Act.put, List.setIfInBounds_toArray, List.set_cons_succ, List.set_cons_zero]) | (go_at_call 9; (with_reducible refine (HS1.out _ HB1).mono ?_); rintro e w2 ⟨rfl, hbw2⟩; have gf2 := gbf_1.then_ hbw2) | (refine wpList_row_w (by rfl) 31 _ rfl bf rfl 31 _ gf2 ⟨_, Tryd.underlying31⟩ (by kernel_rfl) ?_; simp only [Act.put, List.setIfInBounds_toArray, List.set_cons_succ, List.set_cons_zero]) | (go_at_call 10; (with_reducible refine (HS2.out _).mono ?_); rintro e w3 ⟨rfl, hbw3⟩))
    go_ret
    exact ⟨rfl, below_then (below_then HB1 hbw2) hbw3⟩
  | true =>
  have HS2 := Lib.hid (fun W => smallf_at f k true hs2 W)
  obtain ⟨hF, l1, l2⟩ := small_filt hf hs2
  have hC := small_cont hc hs1
  have HC := Lib.hid hC
  have HF := Lib.hid hF
  have HSL := Lib.hid hl.2.2.2
  have hlc := hl.1
  obtain ⟨LW, eLW⟩ : ∃ n, l.length = n := ⟨_, rfl⟩
  have ELW := Lib.hid eLW
  rw [eLW] at hlc ⊢
  clear hc hf hs1 hs2 hL hC hF hl eLW
  by_cases h20 : 20 < LW
  · have tb : decide ((20 : Int) < (LW : Int)) = true := decide_eq_true (by omega)
    go_enter Tryd.func4, Tryd.ntmps4
    go_upto_region 1 with (fail)
    refine name_wp ?_
    intro X0 hX
    have gbc : Blk X0 w.heap.size 27 (coA c m) := by rw [hX]; exact (blk_at (by simp)).alloc _
    have gbf : Blk X0 (w.heap.size + 1) 31 (flA f k) := by rw [hX]; exact blk_at (by simp)
    have HB0 : Below w.heap.size w X0 := by rw [hX]; (repeat (first | with_reducible assumption | with_reducible exact Below.refl _ _ | with_reducible refine below_drewN ?_ _ | with_reducible refine Below.drew ?_ | with_reducible refine below_alloc ?_ _ | with_reducible refine Below.setCell ?_ (by first | omega | (simp; done) | (simp; omega)) _ | with_reducible refine below_then ?_ (by with_reducible assumption) | (refine below_then (a := World.drew _) ?_ (by with_reducible assumption))))
    clear hX
    obtain ⟨bf, ebf⟩ : ∃ b, w.heap.size + 1 = b := ⟨_, rfl⟩
    obtain ⟨bc, ebc⟩ : ∃ b, w.heap.size = b := ⟨_, rfl⟩
    have lbc : w.heap.size ≤ bc := by omega
    have lbf : w.heap.size ≤ bf := by omega
    have nbcbf : bc ≠ bf := by omega
    rw [ebf] at gbf ⊢
    rw [ebc] at gbc ⊢
    clear ebc ebf
    go_upto_region 2 with ((go_at_call 8; (with_reducible refine (HH.out _ HB0).mono ?_); rintro e w1 ⟨rfl, hbw1⟩))
    have HH1 := hbw1
    have HB1 := below_then HB0 HH1
    have gbc_1 := gbc.then_ HH1
    have gbf_1 := gbf.then_ HH1
    clear gbc gbf HB0 HH1
    go_wp2_with (first | (refine wpList_row_w (by rfl) 27 _ rfl bc rfl 27 _ gbc_1 ⟨_, Tryd.underlying27⟩ (by kernel_rfl) ?_; simp only [Act.put, List.setIfInBounds_toArray, List.set_cons_succ, List.set_cons_zero]) | (go_at_call 9; (with_reducible refine (HS1.out _ HB1).mono ?_); rintro e w2 ⟨rfl, hbw2⟩; have gf2 := gbf_1.then_ hbw2) | (refine wpList_row_w (by rfl) 31 _ rfl bf rfl 31 _ gf2 ⟨_, Tryd.underlying31⟩ (by kernel_rfl) ?_; simp only [Act.put, List.setIfInBounds_toArray, List.set_cons_succ, List.set_cons_zero]) | (go_at_call 10; (with_reducible refine (HS2.out _).mono ?_); rintro e w3 ⟨rfl, hbw3⟩))
    go_ret
    exact ⟨rfl, below_then (below_then HB1 hbw2) hbw3⟩
  by_cases h00 : LW = 0
  · subst h00
    go_enter Tryd.func4, Tryd.ntmps4
    go_upto_region 1 with (fail)
    refine name_wp ?_
    intro X0 hX
    have gbc : Blk X0 w.heap.size 27 (coA c m) := by rw [hX]; exact (blk_at (by simp)).alloc _
    have gbf : Blk X0 (w.heap.size + 1) 31 (flA f k) := by rw [hX]; exact blk_at (by simp)
    have HB0 : Below w.heap.size w X0 := by rw [hX]; (repeat (first | with_reducible assumption | with_reducible exact Below.refl _ _ | with_reducible refine below_drewN ?_ _ | with_reducible refine Below.drew ?_ | with_reducible refine below_alloc ?_ _ | with_reducible refine Below.setCell ?_ (by first | omega | (simp; done) | (simp; omega)) _ | with_reducible refine below_then ?_ (by with_reducible assumption) | (refine below_then (a := World.drew _) ?_ (by with_reducible assumption))))
    clear hX
    obtain ⟨bf, ebf⟩ : ∃ b, w.heap.size + 1 = b := ⟨_, rfl⟩
    obtain ⟨bc, ebc⟩ : ∃ b, w.heap.size = b := ⟨_, rfl⟩
    have lbc : w.heap.size ≤ bc := by omega
    have lbf : w.heap.size ≤ bf := by omega
    have nbcbf : bc ≠ bf := by omega
    rw [ebf] at gbf ⊢
    rw [ebc] at gbc ⊢
    clear ebc ebf
    go_upto_region 2 with ((go_at_call 8; (with_reducible refine (HH.out _ HB0).mono ?_); rintro e w1 ⟨rfl, hbw1⟩))
    have HH1 := hbw1
    have HB1 := below_then HB0 HH1
    have gbc_1 := gbc.then_ HH1
    have gbf_1 := gbf.then_ HH1
    clear gbc gbf HB0 HH1
    go_wp2_with (first | (refine wpList_row_w (by rfl) 27 _ rfl bc rfl 27 _ gbc_1 ⟨_, Tryd.underlying27⟩ (by kernel_rfl) ?_; simp only [Act.put, List.setIfInBounds_toArray, List.set_cons_succ, List.set_cons_zero]) | (go_at_call 9; (with_reducible refine (HS1.out _ HB1).mono ?_); rintro e w2 ⟨rfl, hbw2⟩; have gf2 := gbf_1.then_ hbw2) | (refine wpList_row_w (by rfl) 31 _ rfl bf rfl 31 _ gf2 ⟨_, Tryd.underlying31⟩ (by kernel_rfl) ?_; simp only [Act.put, List.setIfInBounds_toArray, List.set_cons_succ, List.set_cons_zero]) | (go_at_call 10; (with_reducible refine (HS2.out _).mono ?_); rintro e w3 ⟨rfl, hbw3⟩))
    go_ret
    exact ⟨rfl, below_then (below_then HB1 hbw2) hbw3⟩
  have tb : decide ((20 : Int) < (LW : Int)) = false := decide_eq_false (by omega)
  have tz : decide ((LW : Int) = 0) = false := decide_eq_false (by omega)
  have tz2 : ((LW : Int) == 0) = false := by rw [beq_eq_false_iff_ne]; omega
  go_enter Tryd.func4, Tryd.ntmps4
  go_upto_region 1 with (fail)
  refine name_wp ?_
  intro X0 hX
  have gbc : Blk X0 w.heap.size 27 (coA c m) := by rw [hX]; exact (blk_at (by simp)).alloc _
  have gbf : Blk X0 (w.heap.size + 1) 31 (flA f k) := by rw [hX]; exact blk_at (by simp)
  have HB0 : Below w.heap.size w X0 := by rw [hX]; (repeat (first | with_reducible assumption | with_reducible exact Below.refl _ _ | with_reducible refine below_drewN ?_ _ | with_reducible refine Below.drew ?_ | with_reducible refine below_alloc ?_ _ | with_reducible refine Below.setCell ?_ (by first | omega | (simp; done) | (simp; omega)) _ | with_reducible refine below_then ?_ (by with_reducible assumption) | (refine below_then (a := World.drew _) ?_ (by with_reducible assumption))))
  clear hX
  obtain ⟨bf, ebf⟩ : ∃ b, w.heap.size + 1 = b := ⟨_, rfl⟩
  obtain ⟨bc, ebc⟩ : ∃ b, w.heap.size = b := ⟨_, rfl⟩
  have lbc : w.heap.size ≤ bc := by omega
  have lbf : w.heap.size ≤ bf := by omega
  have nbcbf : bc ≠ bf := by omega
  rw [ebf] at gbf ⊢
  rw [ebc] at gbc ⊢
  clear ebc ebf
  go_upto_region 2 with ((go_at_call 8; (with_reducible refine (HH.out _ HB0).mono ?_); rintro e w1 ⟨rfl, hbw1⟩))
  have HH1 := hbw1
  have HB1 := below_then HB0 HH1
  have gbc_1 := gbc.then_ HH1
  have gbf_1 := gbf.then_ HH1
  clear gbc gbf HB0 HH1
  go_upto_region 4 with (first | (refine wpList_row_w (by rfl) 27 _ rfl bc rfl 27 _ gbc_1 ⟨_, Tryd.underlying27⟩ (by kernel_rfl) ?_; simp only [Act.put, List.setIfInBounds_toArray, List.set_cons_succ, List.set_cons_zero]) | (go_at_call 9; (with_reducible refine (HS1.out _ HB1).mono ?_); rintro e w2 ⟨rfl, hbw2⟩; have gf2 := gbf_1.then_ hbw2) | (refine wpList_row_w (by rfl) 31 _ rfl bf rfl 31 _ gf2 ⟨_, Tryd.underlying31⟩ (by kernel_rfl) ?_; simp only [Act.put, List.setIfInBounds_toArray, List.set_cons_succ, List.set_cons_zero]) | (go_at_call 10; (with_reducible refine (HS2.out _).mono ?_); rintro e w3 ⟨rfl, hbw3⟩))
  have HH2 := below_then hbw2 hbw3
  have HB2 := below_then HB1 HH2
  have gbc_2 := gbc_1.then_ HH2
  have gbf_2 := gbf_1.then_ HH2
  clear gbc_1 gbf_1 HB1 HH2
  clear tb tz tz2
  go_upto_region 5 with (first | (refine wpList_row_w (by rfl) 31 _ rfl bf rfl 31 _ gbf_2 ⟨_, Tryd.underlying31⟩ (by kernel_rfl) ?_; simp only [Act.put, List.setIfInBounds_toArray, List.set_cons_succ, List.set_cons_zero]) | (refine wpList_new 31 elFl _ _ rfl rfl rfl rfl rfl rfl _ rfl (by simp [Value.oneCell']) (by simp) rfl ?_; simp only [Act.put, List.setIfInBounds_toArray, List.set_cons_succ, List.set_cons_zero]; try simp only [World.size_alloc]))
  refine name_wp ?_
  intro X8 hX
  have gb8 : Blk X8 w3.heap.size 31 (flA f k) := by rw [hX]; exact blk_at (by simp)
  have hbX8 : Below w3.heap.size w3 X8 := by rw [hX]; (repeat (first | with_reducible assumption | with_reducible exact Below.refl _ _ | with_reducible refine below_drewN ?_ _ | with_reducible refine Below.drew ?_ | with_reducible refine below_alloc ?_ _ | with_reducible refine Below.setCell ?_ (by first | omega | (simp; done) | (simp; omega)) _ | with_reducible refine below_then ?_ (by with_reducible assumption) | (refine below_then (a := World.drew _) ?_ (by with_reducible assumption))))
  clear hX
  have nb8bc : bc < w3.heap.size := (gbc_2).lt
  have nb8bf : bf < w3.heap.size := (gbf_2).lt
  have mb8 : w.heap.size ≤ w3.heap.size := HB2.size
  obtain ⟨b8, eb8⟩ : ∃ b, w3.heap.size = b := ⟨_, rfl⟩
  rw [eb8] at gb8 mb8 nb8bc nb8bf ⊢
  have HH3 := hbX8
  have HB3 := below_then HB2 HH3
  have gbc_3 := gbc_2.then_ HH3
  have gbf_3 := gbf_2.then_ HH3
  clear gbc_2 gbf_2 HB2 HH3
  clear eb8 hbX8
  go_upto_region 6 with (first | (refine wpList_row_w (by rfl) 31 _ rfl bf rfl 31 _ gbf_3 ⟨_, Tryd.underlying31⟩ (by kernel_rfl) ?_; simp only [Act.put, List.setIfInBounds_toArray, List.set_cons_succ, List.set_cons_zero]) | (refine wpList_new 31 elFl _ _ rfl rfl rfl rfl rfl rfl _ rfl (by simp [Value.oneCell']) (by simp) rfl ?_; simp only [Act.put, List.setIfInBounds_toArray, List.set_cons_succ, List.set_cons_zero]; try simp only [World.size_alloc]))
  refine name_wp ?_
  intro X9 hX
  have gb9 : Blk X9 X8.heap.size 31 (flA f k) := by rw [hX]; exact blk_at (by simp)
  have hbX9 : Below X8.heap.size X8 X9 := by rw [hX]; (repeat (first | with_reducible assumption | with_reducible exact Below.refl _ _ | with_reducible refine below_drewN ?_ _ | with_reducible refine Below.drew ?_ | with_reducible refine below_alloc ?_ _ | with_reducible refine Below.setCell ?_ (by first | omega | (simp; done) | (simp; omega)) _ | with_reducible refine below_then ?_ (by with_reducible assumption) | (refine below_then (a := World.drew _) ?_ (by with_reducible assumption))))
  clear hX
  have nb9bc : bc < X8.heap.size := (gbc_3).lt
  have nb9bf : bf < X8.heap.size := (gbf_3).lt
  have nb9b8 : b8 < X8.heap.size := (gb8).lt
  have mb9 : w.heap.size ≤ X8.heap.size := HB3.size
  obtain ⟨b9, eb9⟩ : ∃ b, X8.heap.size = b := ⟨_, rfl⟩
  rw [eb9] at gb9 mb9 nb9bc nb9bf nb9b8 ⊢
  have HH4 := hbX9
  have HB4 := below_then HB3 HH4
  have gbc_4 := gbc_3.then_ HH4
  have gbf_4 := gbf_3.then_ HH4
  have gb8_4 := gb8.then_ HH4
  clear gbc_3 gbf_3 gb8 HB3 HH4
  clear eb9 hbX9
  go_upto_region 9 with (fail)
  go_loopw [10, 11, 12] (fun y10 y11 y12 WR => ∃ (i : Nat) (E G : Int) (a b : Fil) (ma mb : Fm), i ≤ LW ∧ y10 = .int .i64 E ∧ y11 = .int .i64 G ∧ y12 = .int .i64 i ∧ Hid (Blk WR b8 31 (flA a ma)) ∧ Hid (Blk WR b9 31 (flA b mb)) ∧ Hid (Blk WR bf 31 (flA f k)) ∧ Hid (Blk WR bc 27 (coA c m)) ∧ Hid (Filt WR a ma) ∧ Hid (Filt WR b mb) ∧ Hid (FOffN (fun x => x ≠ b8 ∧ x ≠ b9) a ma) ∧ Hid (FOffN (fun x => x ≠ b8 ∧ x ≠ b9) b mb) ∧ Hid (E = 0 → f.puts c (l.take i) = some a) ∧ Hid (G = 0 → f.puts c (l.reverse.take i) = some b) ∧ Hid (Below w.heap.size w WR) ∧ Hid (b9 < WR.heap.size)) (fun _ _ y12 _ => 2000000 - (intOf y12).toNat)
  case atStart => exact ⟨0, 0, 0, f, f, k, k, by omega, rfl, rfl, rfl, gb8_4, gb9, gbf_4, gbc_4, HF.out.then_ HB4, HF.out.then_ HB4, HF.out.offN.mono (fun b hb => ⟨by omega, by omega⟩), HF.out.offN.mono (fun b hb => ⟨by omega, by omega⟩), fun _ => rfl, fun _ => rfl, HB4, gb9.lt⟩
  case round =>
    clear gb8_4 gb9 gbf_4 gbc_4 HB4
    obtain ⟨i, E, G, a, b, ma, mb, hi, rfl, rfl, rfl, H8, H9, HFF, HCC, HFa, HFb, HOa, HOb, HPa, HPb, HBw, HL9⟩ := hrel
    by_cases hE : E = 0
    case neg =>
      have tE : (E == 0) = false := by rw [beq_eq_false_iff_ne]; exact hE
      by_cases hlt : i < LW
      · have tl : decide ((i : Int) < (LW : Int)) = true := decide_eq_true (by omega)
        go_wp2
        go_ret
        exact ⟨rfl, HBw.out⟩
      · have tl : decide ((i : Int) < (LW : Int)) = false := decide_eq_false (by omega)
        go_wp2
        go_ret
        exact ⟨rfl, HBw.out⟩
    subst hE
    by_cases hG : G = 0
    case neg =>
      have tG : (G == 0) = false := by rw [beq_eq_false_iff_ne]; exact hG
      by_cases hlt : i < LW
      · have tl : decide ((i : Int) < (LW : Int)) = true := decide_eq_true (by omega)
        go_wp2
        go_ret
        exact ⟨rfl, HBw.out⟩
      · have tl : decide ((i : Int) < (LW : Int)) = false := decide_eq_false (by omega)
        go_wp2
        go_ret
        exact ⟨rfl, HBw.out⟩
    subst hG
    by_cases hlt : i < LW
    case pos =>
      have tl : decide ((i : Int) < (LW : Int)) = true := decide_eq_true (by omega)
      obtain ⟨x, hx⟩ : ∃ x, l[i]? = some x := ⟨_, List.getElem?_eq_getElem (by rw [ELW.out]; exact hlt)⟩
      obtain ⟨z, hz⟩ : ∃ z, l[LW - 1 - i]? = some z := ⟨_, List.getElem?_eq_getElem (by rw [ELW.out]; omega)⟩
      have hzr : Hid (l.reverse[i]? = some z) := by unfold Hid; rw [rev_at (by rw [ELW.out]; exact hlt), ELW.out]; exact hz
      obtain ⟨b0, o0, e0, hb0, hc0⟩ := segAt (HSL.out.below HBw.out) hx
      have hix := fun W => idx_at (t := 28) (size := 6) (cap := kl) (len := LW) e0 hlt (by kernel_rfl) (fun W => by kernel_rfl) W
      obtain ⟨b1, o1, e1, hb1, hc1⟩ := segAt (HSL.out.below HBw.out) hz
      have hjx := fun W => idx_at (t := 28) (size := 6) (cap := kl) (len := LW) e1 (show LW - 1 - i < LW by omega) (by kernel_rfl) (fun W => by kernel_rfl) W
      simp only [show (((LW - 1 - i : Nat)) : Int) = (LW : Int) - 1 - (i : Int) by omega] at hjx
      have y0 : wr.cell? ⟨b0, o0 + i * 6, none⟩ = some (.int .i64 x.ref) := hc0 0 _ rfl
      have y1 : wr.cell? ⟨b0, o0 + i * 6 + 1, none⟩ = some (.int .i64 x.act) := hc0 1 _ rfl
      have y2 : wr.cell? ⟨b0, o0 + i * 6 + 2, none⟩ = some (.int .i64 x.low) := hc0 2 _ rfl
      have y3 : wr.cell? ⟨b0, o0 + i * 6 + 3, none⟩ = some (.int .i64 x.high) := hc0 3 _ rfl
      have y4 : wr.cell? ⟨b0, o0 + i * 6 + 4, none⟩ = some (.int .i64 x.filed) := hc0 4 _ rfl
      have y5 : wr.cell? ⟨b0, o0 + i * 6 + 5, none⟩ = some (.bool x.sec) := hc0 5 _ rfl
      have HZ := Lib.hid hc1
      have hb1w : b1 < w.heap.size := hb1
      have HXX := Lib.hid hx
      clear hc0 hc1 hx hz e0 e1 hb0 hb1
      have a0 : wr.cell? ⟨b8, 0, none⟩ = some (.int .i64 a.house) := (H8.out).cell 0
      have a1 : wr.cell? ⟨b8, 1, none⟩ = some (.slice ma.f a.facts.length ma.fc) := (H8.out).cell 1
      have a2 : wr.cell? ⟨b8, 2, none⟩ = some (.slice ma.o a.ords.length ma.oc) := (H8.out).cell 2
      have c0 : wr.cell? ⟨bc, 0, none⟩ = some (.int .i64 c.par) := (HCC.out).cell 0
      have c1 : wr.cell? ⟨bc, 1, none⟩ = some (.slice m.h c.hold.length m.hc) := (HCC.out).cell 1
      have c2 : wr.cell? ⟨bc, 2, none⟩ = some (.slice m.u c.un.length m.uc) := (HCC.out).cell 2
      have c3 : wr.cell? ⟨bc, 3, none⟩ = some (.slice m.a c.ac.length m.ac) := (HCC.out).cell 3
      have c4 : wr.cell? ⟨bc, 4, none⟩ = some (.slice m.k c.cl.length m.kc) := (HCC.out).cell 4
      have c5 : wr.cell? ⟨bc, 5, none⟩ = some (.int .i64 c.days) := (HCC.out).cell 5
      have c6 : wr.cell? ⟨bc, 6, none⟩ = some (.slice m.o c.off.length m.oc) := (HCC.out).cell 6
      go_upto_region 11 with (fail)
      clear tl
      have rg0 := cell_regrown c0
      have rg1 := cell_regrown c1
      have rg2 := cell_regrown c2
      have rg3 := cell_regrown c3
      have rg4 := cell_regrown c4
      have rg5 := cell_regrown c5
      have rg6 := cell_regrown c6
      have rg7 := cell_regrown a0
      have rg8 := cell_regrown a1
      have rg9 := cell_regrown a2
      have rg10 := cell_regrown y0
      have rg11 := cell_regrown y1
      have rg12 := cell_regrown y2
      have rg13 := cell_regrown y3
      have rg14 := cell_regrown y4
      have rg15 := cell_regrown y5
      refine wp_region_qt [0, 1, 2, 3, 4, 5] [6, 7, 8, 9, 10, 11] (by kernel_rfl) (by kernel_rfl) (by repeat (first | with_reducible refine panOk_then ?_ | with_reducible refine panOk_block ?_ | exact panOk_body)) ?_
      simp only [opsAt, List.getElem?_toArray, List.getElem?_cons_succ, List.getElem?_cons_zero, Option.toList_some, List.cons_append, List.nil_append]
      repeat (go_big_quiet_step (fail))
      refine wpQuiet_nil ?_
      intro Y hw2
      have hbY := qt_world hw2
      clear hw2 rg0 rg1 rg2 rg3 rg4 rg5 rg6 rg7 rg8 rg9 rg10 rg11 rg12 rg13 rg14 rg15
      have HP1 := Lib.hid (put_any c m a ma x Y (HC.out.then_ (HBw.out.trans (hbY.mono HBw.out.size))) (HFa.out.then_ hbY))
      obtain ⟨a', ea⟩ : ∃ A, a.putF c x = A := ⟨_, rfl⟩
      obtain ⟨E', eE⟩ : ∃ A, a.putE c x = A := ⟨_, rfl⟩
      rw [ea, eE] at HP1
      have HPa2 : Hid (E' = 0 → f.puts c (l.take (i + 1)) = some a') := fun h => by rw [← ea]; exact puts_next HXX.out (HPa.out (by trivial)) (eE.trans h)
      have g8Y := H8.out.then_ hbY
      clear c0 c1 c2 c3 c4 c5 c6 a0 a1 a2 y0 y1 y2 y3 y4 y5 ea eE
      go_upto_region 12 with (first | (go_at_call 11; (with_reducible refine HP1.out.mono ?_); rintro e wa ⟨⟨ma', rfl, hFa', hOa'⟩, hba⟩; have g8a := g8Y.then_ hba) | (refine wpList_store_all rfl 31 _ _ rfl b8 31 [] (flA a ma).toList [] (flA a' ma').toList rfl rfl g8a rfl (by kernel_rfl) (by simp [Value.oneCell']) ?_; intro we g8e ue))
      have hYa : Below wr.heap.size wr wa := below_then hbY hba
      have L9 : b9 < wr.heap.size := HL9.out
      have sY : wr.heap.size ≤ Y.heap.size := hbY.size
      have HFa2 := Lib.hid (hFa'.updN ue (hOa'.n.mono fun b hb => by omega))
      have HOa2 : Hid (FOffN (fun x => x ≠ b8 ∧ x ≠ b9) a' ma') := hOa'.n.mono fun b hb => ⟨by omega, by omega⟩
      have HFb2 := Lib.hid ((HFb.out.then_ hYa).updN ue (HOb.out.mono fun b hb => hb.1))
      have H92 := Lib.hid ((H9.out.then_ hYa).upd ue (by omega))
      have HFF2 := Lib.hid ((HFF.out.then_ hYa).upd ue (by omega))
      have HCC2 := Lib.hid ((HCC.out.then_ hYa).upd ue (by omega))
      have HBw2 := Lib.hid ((HBw.out.trans (hYa.mono HBw.out.size)).trans (ue.b _ mb8))
      have H82 := Lib.hid g8e
      have HL92 : Hid (b9 < we.heap.size) := by have h1 := hYa.size; have h2 := ue.s; unfold Hid; omega
      have HB1e : Hid (∀ j v, ([Value.int .i64 z.ref, .int .i64 z.act, .int .i64 z.low, .int .i64 z.high, .int .i64 z.filed, .bool z.sec] : List Value)[j]? = some v → we.cell? ⟨b1, o1 + (LW - 1 - i) * 6 + j, none⟩ = some v) := fun j v hv => (ue.cell (by omega)).trans ((hYa.cell (p := ⟨b1, o1 + (LW - 1 - i) * 6 + j, none⟩) (by have := HBw.out.size; show b1 < _; omega)).trans (HZ.out j v hv))
      clear H8 H9 HFF HCC HFa HFb HOa HBw hYa hbY hba hFa' hOa' g8Y g8a g8e ue HP1 HPa HZ HXX HL9 sY L9 hix
      have y0 : we.cell? ⟨b1, o1 + (LW - 1 - i) * 6, none⟩ = some (.int .i64 z.ref) := HB1e.out 0 _ rfl
      have y1 : we.cell? ⟨b1, o1 + (LW - 1 - i) * 6 + 1, none⟩ = some (.int .i64 z.act) := HB1e.out 1 _ rfl
      have y2 : we.cell? ⟨b1, o1 + (LW - 1 - i) * 6 + 2, none⟩ = some (.int .i64 z.low) := HB1e.out 2 _ rfl
      have y3 : we.cell? ⟨b1, o1 + (LW - 1 - i) * 6 + 3, none⟩ = some (.int .i64 z.high) := HB1e.out 3 _ rfl
      have y4 : we.cell? ⟨b1, o1 + (LW - 1 - i) * 6 + 4, none⟩ = some (.int .i64 z.filed) := HB1e.out 4 _ rfl
      have y5 : we.cell? ⟨b1, o1 + (LW - 1 - i) * 6 + 5, none⟩ = some (.bool z.sec) := HB1e.out 5 _ rfl
      have a0 : we.cell? ⟨b9, 0, none⟩ = some (.int .i64 b.house) := (H92.out).cell 0
      have a1 : we.cell? ⟨b9, 1, none⟩ = some (.slice mb.f b.facts.length mb.fc) := (H92.out).cell 1
      have a2 : we.cell? ⟨b9, 2, none⟩ = some (.slice mb.o b.ords.length mb.oc) := (H92.out).cell 2
      have c0 : we.cell? ⟨bc, 0, none⟩ = some (.int .i64 c.par) := (HCC2.out).cell 0
      have c1 : we.cell? ⟨bc, 1, none⟩ = some (.slice m.h c.hold.length m.hc) := (HCC2.out).cell 1
      have c2 : we.cell? ⟨bc, 2, none⟩ = some (.slice m.u c.un.length m.uc) := (HCC2.out).cell 2
      have c3 : we.cell? ⟨bc, 3, none⟩ = some (.slice m.a c.ac.length m.ac) := (HCC2.out).cell 3
      have c4 : we.cell? ⟨bc, 4, none⟩ = some (.slice m.k c.cl.length m.kc) := (HCC2.out).cell 4
      have c5 : we.cell? ⟨bc, 5, none⟩ = some (.int .i64 c.days) := (HCC2.out).cell 5
      have c6 : we.cell? ⟨bc, 6, none⟩ = some (.slice m.o c.off.length m.oc) := (HCC2.out).cell 6
      have rg0 := cell_regrown c0
      have rg1 := cell_regrown c1
      have rg2 := cell_regrown c2
      have rg3 := cell_regrown c3
      have rg4 := cell_regrown c4
      have rg5 := cell_regrown c5
      have rg6 := cell_regrown c6
      have rg7 := cell_regrown a0
      have rg8 := cell_regrown a1
      have rg9 := cell_regrown a2
      have rg10 := cell_regrown y0
      have rg11 := cell_regrown y1
      have rg12 := cell_regrown y2
      have rg13 := cell_regrown y3
      have rg14 := cell_regrown y4
      have rg15 := cell_regrown y5
      refine wp_region_qt [0, 1, 2, 3, 4, 5, 6, 7, 8, 9] [10, 11, 12, 13, 14, 15] (by kernel_rfl) (by kernel_rfl) (by repeat (first | with_reducible refine panOk_then ?_ | with_reducible refine panOk_block ?_ | exact panOk_body)) ?_
      simp only [opsAt, List.getElem?_toArray, List.getElem?_cons_succ, List.getElem?_cons_zero, Option.toList_some, List.cons_append, List.nil_append]
      repeat (go_big_quiet_step (fail))
      refine wpQuiet_nil ?_
      intro U hw2
      have hbU := qt_world hw2
      clear hw2 rg0 rg1 rg2 rg3 rg4 rg5 rg6 rg7 rg8 rg9 rg10 rg11 rg12 rg13 rg14 rg15
      have HP2 := Lib.hid (put_any c m b mb z U (HC.out.then_ (HBw2.out.trans (hbU.mono HBw2.out.size))) (HFb2.out.then_ hbU))
      obtain ⟨b', eb⟩ : ∃ A, b.putF c z = A := ⟨_, rfl⟩
      obtain ⟨G', eG⟩ : ∃ A, b.putE c z = A := ⟨_, rfl⟩
      rw [eb, eG] at HP2
      have HPb2 : Hid (G' = 0 → f.puts c (l.reverse.take (i + 1)) = some b') := fun h => by rw [← eb]; exact puts_next hzr.out (HPb.out (by trivial)) (eG.trans h)
      have g9U := H92.out.then_ hbU
      clear c0 c1 c2 c3 c4 c5 c6 a0 a1 a2 y0 y1 y2 y3 y4 y5 eb eG
      go_wp2_with (first | (go_at_call 11; (with_reducible refine HP2.out.mono ?_); rintro e wb ⟨⟨mb', rfl, hFb', hOb'⟩, hbb⟩; have g9b := g9U.then_ hbb) | (refine wpList_store_all rfl 31 _ _ rfl b9 31 [] (flA b mb).toList [] (flA b' mb').toList rfl rfl g9b rfl (by kernel_rfl) (by simp [Value.oneCell']) ?_; intro wf g9f uf))
      have hUb : Below we.heap.size we wb := below_then hbU hbb
      have L9 : b9 < we.heap.size := HL92.out
      have sU : we.heap.size ≤ U.heap.size := hbU.size
      have sF := uf.s
      have sB := hUb.size
      go_roundw
      case rel => exact ⟨i + 1, E', G', a', b', ma', mb', by omega, by simp, by simp, by simp, (H82.out.then_ hUb).upd uf (by omega), g9f, (HFF2.out.then_ hUb).upd uf (by omega), (HCC2.out.then_ hUb).upd uf (by omega), (HFa2.out.then_ hUb).updN uf (HOa2.out.mono fun b hb => hb.2), hFb'.updN uf (hOb'.n.mono fun b hb => by omega), HOa2.out, hOb'.n.mono (fun b hb => ⟨by omega, by omega⟩), HPa2, HPb2, (HBw2.out.trans (hUb.mono HBw2.out.size)).trans (uf.b _ mb9), show Hid _ from by unfold Hid; omega⟩
      case measure => simp [intOf]; omega
    case neg =>
      have tl : decide ((i : Int) < (LW : Int)) = false := decide_eq_false (by omega)
      have P1 : f.puts c l = some a := by have := HPa.out (by trivial); rwa [List.take_of_length_le (by rw [ELW.out]; omega)] at this
      have P2 : f.puts c l.reverse = some b := by have := HPb.out (by trivial); rwa [List.take_of_length_le (by rw [List.length_reverse, ELW.out]; omega)] at this
      have hln : l ≠ [] := fun e => by have := ELW.out; rw [e] at this; simp at this; omega
      have hab : Hid (a = b) := puts_rev hln P1 P2
      obtain ⟨q1, q2, q3, q4, q5⟩ := puts_facts P1
      have HMEM : Hid (∀ x ∈ l, x ∈ a.facts) := fun x hx => (q1 x).2 (.inr hx)
      have HLEN : Hid (a.facts.length = f.facts.length + LW) := by unfold Hid; rw [q2, ELW.out]
      clear P1 P2 q1 q2 q3 q4 q5 hln HPa HPb
      go_upto_region 16 with (fail)
      clear tl
      go_loopw [13] (fun y13 WR => ∃ j : Nat, j ≤ LW ∧ y13 = .int .i64 j ∧ Hid (Below wr.heap.size wr WR)) (fun y13 _ => 2000000 - (intOf y13).toNat)
      case atStart => exact ⟨0, by omega, rfl, Below.refl _ _⟩
      case round =>
        obtain ⟨j, hj, rfl, hW⟩ := hrel
        by_cases hlt2 : j < LW
        case pos =>
          obtain ⟨x, hx⟩ : ∃ x, l[j]? = some x := ⟨_, List.getElem?_eq_getElem (by rw [ELW.out]; exact hlt2)⟩
          obtain ⟨b0, o0, e0, hb0, hc0⟩ := segAt (((HSL.out.below HBw.out).more HBw.out.size).below hW.out) hx
          have hix := fun W => idx_at (t := 28) (size := 6) (cap := kl) (len := LW) e0 hlt2 (by kernel_rfl) (fun W => by kernel_rfl) W
          have tl : decide ((j : Int) < (LW : Int)) = true := decide_eq_true (by omega)
          have y0 : wr.cell? ⟨b0, o0 + j * 6, none⟩ = some (.int .i64 x.ref) := hc0 0 _ rfl
          have y1 : wr.cell? ⟨b0, o0 + j * 6 + 1, none⟩ = some (.int .i64 x.act) := hc0 1 _ rfl
          have y2 : wr.cell? ⟨b0, o0 + j * 6 + 2, none⟩ = some (.int .i64 x.low) := hc0 2 _ rfl
          have y3 : wr.cell? ⟨b0, o0 + j * 6 + 3, none⟩ = some (.int .i64 x.high) := hc0 3 _ rfl
          have y4 : wr.cell? ⟨b0, o0 + j * 6 + 4, none⟩ = some (.int .i64 x.filed) := hc0 4 _ rfl
          have y5 : wr.cell? ⟨b0, o0 + j * 6 + 5, none⟩ = some (.bool x.sec) := hc0 5 _ rfl
          have a0 : wr.cell? ⟨b8, 0, none⟩ = some (.int .i64 a.house) := ((H8.out.then_ hW.out)).cell 0
          have a1 : wr.cell? ⟨b8, 1, none⟩ = some (.slice ma.f a.facts.length ma.fc) := ((H8.out.then_ hW.out)).cell 1
          have a2 : wr.cell? ⟨b8, 2, none⟩ = some (.slice ma.o a.ords.length ma.oc) := ((H8.out.then_ hW.out)).cell 2
          have HM := Lib.hid (HMEM.out x (List.mem_of_getElem? hx))
          clear hc0 e0 hx hb0
          go_upto_region 18 with (fail)
          clear tl
          have rg0 := cell_regrown a0
          have rg1 := cell_regrown a1
          have rg2 := cell_regrown a2
          have rg3 := cell_regrown y0
          have rg4 := cell_regrown y1
          have rg5 := cell_regrown y2
          have rg6 := cell_regrown y3
          have rg7 := cell_regrown y4
          have rg8 := cell_regrown y5
          refine wp_region_qt [0, 1, 2, 3, 4] [5, 6] (by kernel_rfl) (by kernel_rfl) (by repeat (first | with_reducible refine panOk_then ?_ | with_reducible refine panOk_block ?_ | exact panOk_body)) ?_
          simp only [opsAt, List.getElem?_toArray, List.getElem?_cons_succ, List.getElem?_cons_zero, Option.toList_some, List.cons_append, List.nil_append]
          repeat (go_big_quiet_step (fail))
          refine wpQuiet_nil ?_
          intro Z hw2
          have hbZ := qt_world hw2
          clear hw2 rg0 rg1 rg2 rg3 rg4 rg5 rg6 rg7 rg8
          go_wp2_with (go_at_call 15; (with_reducible refine (has_true1 HM.out ((HFa.out.then_ hW.out).then_ hbZ)).mono ?_); rintro e wh ⟨rfl, hbh⟩)
          go_roundw
          case rel => exact ⟨j + 1, by omega, by simp, below_then (below_then hW.out hbZ) hbh⟩
          case measure => simp [intOf]; omega
        case neg =>
          have tl : decide ((j : Int) < (LW : Int)) = false := decide_eq_false (by omega)
          go_upto_region 20 with (fail)
          clear tl
          have g8q := H8.out.then_ hW.out
          have g9q := H9.out.then_ hW.out
          have gfq := HFF.out.then_ hW.out
          go_wp2_with (first | (refine wpList_row_w (by rfl) 31 _ rfl b8 rfl 31 _ g8q ⟨_, Tryd.underlying31⟩ (by kernel_rfl) ?_; simp only [Act.put, List.setIfInBounds_toArray, List.set_cons_succ, List.set_cons_zero]) | (refine wpList_row_w (by rfl) 31 _ rfl b9 rfl 31 _ g9q ⟨_, Tryd.underlying31⟩ (by kernel_rfl) ?_; simp only [Act.put, List.setIfInBounds_toArray, List.set_cons_succ, List.set_cons_zero]) | (go_at_call 17; (with_reducible refine (same_eq (HFa.out.then_ hW.out) (HFb.out.then_ hW.out) hab.out).mono ?_); rintro e wz ⟨rfl, hbz⟩; have c1 : wz.cell? ⟨b8, 1, none⟩ = some (.slice ma.f (f.facts.length + LW) ma.fc) := ((g8q.then_ hbz).cell 1).trans (by rw [← HLEN.out]; rfl); have d1 : wz.cell? ⟨bf, 1, none⟩ = some (.slice k.f f.facts.length k.fc) := (gfq.then_ hbz).cell 1))
          go_ret
          exact ⟨by (try simp); (try rfl), below_then (HBw.out.trans (hW.out.mono HBw.out.size)) hbz⟩
end Go.Proofs.YtemkghgcdpmlbaaDoor
