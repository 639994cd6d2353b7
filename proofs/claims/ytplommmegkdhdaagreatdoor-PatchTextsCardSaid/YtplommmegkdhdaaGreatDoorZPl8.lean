/- The walk of PatchTexts. -/
import Derived.Test.YtplommmegkdhdaaGreatDoorMb27
import Derived.Test.YtplommmegkdhdaaGreatDoorZPt5
namespace Go.Proofs.YtplommmegkdhdaaGreatDoor
open Go.RowKit

theorem text_len {p : Pat} (hI : ∀ n ∈ p.nums, I64 n) (h1 : p.cls.length ≤ 400) (h2 : p.new.start.length ≤ 8) : p.text.length ≤ 1000000 := by
  have ht : p.text = pword ++ p.nums.flatMap wnum := if_pos ⟨h1, h2⟩
  have key : ∀ l : List Int, (∀ n ∈ l, I64 n) → (l.flatMap wnum).length ≤ 22 * l.length := by
    intro l
    induction l with
    | nil => intro _; simp
    | cons n l ih =>
      intro h
      have h1 := wnum_len (h n (List.mem_cons_self ..))
      have h2 := ih (fun m hm => h m (List.mem_cons_of_mem _ hm))
      rw [List.flatMap_cons, List.length_append, List.length_cons]
      omega
  have hn : p.nums.length = 3 + p.cls.length + 16 + 2 * p.new.start.length := by
    unfold Pat.nums
    rw [List.length_append, List.length_append, List.length_append, prs_len]
    rfl
  have := key _ hI
  rw [ht, List.length_append]
  have : pword.length = 5 := rfl
  omega
set_option maxRecDepth 100000 in
set_option maxHeartbeats 6400000 in
theorem texts_any (x y : Pk) (s : ByteArray) (w : World) (hL : Lw w) (hx : fitP w x) (hy : fitP w y) (ix : ∀ n ∈ x.p.nums, I64 n) (iy : ∀ n ∈ y.p.nums, I64 n) :
    Calls Tryz.prog 8 #[.agg (pL x.p x.m), .agg (pL y.p y.m), .string s] w fun e w' => e = .returned (.bool true) ∧ Below w.heap.size w w' := by
  have HH := Lib.hid (fun W (hb : Below w.heap.size w W) => head_any W (hL.below hb))
  by_cases h0 : 400 < x.p.cls.length
  · have t0 : decide ((400 : Int) < (x.p.cls.length : Int)) = true := decide_eq_true (by omega)
    clear hL hx hy ix iy h0
    go_enter Tryz.func8, Tryz.ntmps8
    go_upto_region 1 with (fail)
    refine name_wp ?_
    intro X0 hX
    have gbp : Blk X0 w.heap.size 34 (pL x.p x.m) := by rw [hX]; exact (blk_at (by simp)).alloc _
    have gbq : Blk X0 (w.heap.size + 1) 34 (pL y.p y.m) := by rw [hX]; exact blk_at (by simp)
    have HB0 : Below w.heap.size w X0 := by rw [hX]; (repeat (first | with_reducible assumption | with_reducible exact Below.refl _ _ | with_reducible refine below_drewN ?_ _ | with_reducible refine Below.drew ?_ | with_reducible refine below_alloc ?_ _ | with_reducible refine Below.setCell ?_ (by first | omega | (simp; done) | (simp; omega)) _ | with_reducible refine below_then ?_ (by with_reducible assumption) | (refine below_then (a := World.drew _) ?_ (by with_reducible assumption))))
    clear hX
    obtain ⟨bq, ebq⟩ : ∃ b, w.heap.size + 1 = b := ⟨_, rfl⟩
    obtain ⟨bp, ebp⟩ : ∃ b, w.heap.size = b := ⟨_, rfl⟩
    have lbp : w.heap.size ≤ bp := by omega
    have lbq : w.heap.size ≤ bq := by omega
    have nbpbq : bp ≠ bq := by omega
    rw [ebq] at gbq ⊢
    rw [ebp] at gbp ⊢
    clear ebp ebq
    go_upto_region 2 with ((go_at_call 9; (with_reducible refine (HH.out _ HB0).mono ?_); rintro e w1 ⟨rfl, hbw1⟩))
    have HH1 := hbw1
    have HB1 := below_then HB0 HH1
    have gbp_1 := gbp.then_ HH1
    have gbq_1 := gbq.then_ HH1
    clear gbp gbq HB0 HH1
    have a1 : w1.cell? ⟨bp, 1, none⟩ = some (.slice x.m.p x.p.cls.length x.m.pc) := gbp_1.cell 1
    have a6 : w1.cell? ⟨bp, 6, none⟩ = some (.slice x.m.A x.p.new.start.length x.m.cap) := gbp_1.cell 6
    have b1 : w1.cell? ⟨bq, 1, none⟩ = some (.slice y.m.p y.p.cls.length y.m.pc) := gbq_1.cell 1
    have b6 : w1.cell? ⟨bq, 6, none⟩ = some (.slice y.m.A y.p.new.start.length y.m.cap) := gbq_1.cell 6
    go_wp2_with (fail)
    go_ret
    exact ⟨rfl, HB1⟩
  have t0 : decide ((400 : Int) < (x.p.cls.length : Int)) = false := decide_eq_false (by omega)
  by_cases h1 : 8 < x.p.new.start.length
  · have t1 : decide ((8 : Int) < (x.p.new.start.length : Int)) = true := decide_eq_true (by omega)
    clear hL hx hy ix iy h0 h1
    go_enter Tryz.func8, Tryz.ntmps8
    go_upto_region 1 with (fail)
    refine name_wp ?_
    intro X0 hX
    have gbp : Blk X0 w.heap.size 34 (pL x.p x.m) := by rw [hX]; exact (blk_at (by simp)).alloc _
    have gbq : Blk X0 (w.heap.size + 1) 34 (pL y.p y.m) := by rw [hX]; exact blk_at (by simp)
    have HB0 : Below w.heap.size w X0 := by rw [hX]; (repeat (first | with_reducible assumption | with_reducible exact Below.refl _ _ | with_reducible refine below_drewN ?_ _ | with_reducible refine Below.drew ?_ | with_reducible refine below_alloc ?_ _ | with_reducible refine Below.setCell ?_ (by first | omega | (simp; done) | (simp; omega)) _ | with_reducible refine below_then ?_ (by with_reducible assumption) | (refine below_then (a := World.drew _) ?_ (by with_reducible assumption))))
    clear hX
    obtain ⟨bq, ebq⟩ : ∃ b, w.heap.size + 1 = b := ⟨_, rfl⟩
    obtain ⟨bp, ebp⟩ : ∃ b, w.heap.size = b := ⟨_, rfl⟩
    have lbp : w.heap.size ≤ bp := by omega
    have lbq : w.heap.size ≤ bq := by omega
    have nbpbq : bp ≠ bq := by omega
    rw [ebq] at gbq ⊢
    rw [ebp] at gbp ⊢
    clear ebp ebq
    go_upto_region 2 with ((go_at_call 9; (with_reducible refine (HH.out _ HB0).mono ?_); rintro e w1 ⟨rfl, hbw1⟩))
    have HH1 := hbw1
    have HB1 := below_then HB0 HH1
    have gbp_1 := gbp.then_ HH1
    have gbq_1 := gbq.then_ HH1
    clear gbp gbq HB0 HH1
    have a1 : w1.cell? ⟨bp, 1, none⟩ = some (.slice x.m.p x.p.cls.length x.m.pc) := gbp_1.cell 1
    have a6 : w1.cell? ⟨bp, 6, none⟩ = some (.slice x.m.A x.p.new.start.length x.m.cap) := gbp_1.cell 6
    have b1 : w1.cell? ⟨bq, 1, none⟩ = some (.slice y.m.p y.p.cls.length y.m.pc) := gbq_1.cell 1
    have b6 : w1.cell? ⟨bq, 6, none⟩ = some (.slice y.m.A y.p.new.start.length y.m.cap) := gbq_1.cell 6
    go_wp2_with (fail)
    go_ret
    exact ⟨rfl, HB1⟩
  have t1 : decide ((8 : Int) < (x.p.new.start.length : Int)) = false := decide_eq_false (by omega)
  by_cases h2 : 400 < y.p.cls.length
  · have t2 : decide ((400 : Int) < (y.p.cls.length : Int)) = true := decide_eq_true (by omega)
    clear hL hx hy ix iy h0 h1 h2
    go_enter Tryz.func8, Tryz.ntmps8
    go_upto_region 1 with (fail)
    refine name_wp ?_
    intro X0 hX
    have gbp : Blk X0 w.heap.size 34 (pL x.p x.m) := by rw [hX]; exact (blk_at (by simp)).alloc _
    have gbq : Blk X0 (w.heap.size + 1) 34 (pL y.p y.m) := by rw [hX]; exact blk_at (by simp)
    have HB0 : Below w.heap.size w X0 := by rw [hX]; (repeat (first | with_reducible assumption | with_reducible exact Below.refl _ _ | with_reducible refine below_drewN ?_ _ | with_reducible refine Below.drew ?_ | with_reducible refine below_alloc ?_ _ | with_reducible refine Below.setCell ?_ (by first | omega | (simp; done) | (simp; omega)) _ | with_reducible refine below_then ?_ (by with_reducible assumption) | (refine below_then (a := World.drew _) ?_ (by with_reducible assumption))))
    clear hX
    obtain ⟨bq, ebq⟩ : ∃ b, w.heap.size + 1 = b := ⟨_, rfl⟩
    obtain ⟨bp, ebp⟩ : ∃ b, w.heap.size = b := ⟨_, rfl⟩
    have lbp : w.heap.size ≤ bp := by omega
    have lbq : w.heap.size ≤ bq := by omega
    have nbpbq : bp ≠ bq := by omega
    rw [ebq] at gbq ⊢
    rw [ebp] at gbp ⊢
    clear ebp ebq
    go_upto_region 2 with ((go_at_call 9; (with_reducible refine (HH.out _ HB0).mono ?_); rintro e w1 ⟨rfl, hbw1⟩))
    have HH1 := hbw1
    have HB1 := below_then HB0 HH1
    have gbp_1 := gbp.then_ HH1
    have gbq_1 := gbq.then_ HH1
    clear gbp gbq HB0 HH1
    have a1 : w1.cell? ⟨bp, 1, none⟩ = some (.slice x.m.p x.p.cls.length x.m.pc) := gbp_1.cell 1
    have a6 : w1.cell? ⟨bp, 6, none⟩ = some (.slice x.m.A x.p.new.start.length x.m.cap) := gbp_1.cell 6
    have b1 : w1.cell? ⟨bq, 1, none⟩ = some (.slice y.m.p y.p.cls.length y.m.pc) := gbq_1.cell 1
    have b6 : w1.cell? ⟨bq, 6, none⟩ = some (.slice y.m.A y.p.new.start.length y.m.cap) := gbq_1.cell 6
    go_wp2_with (fail)
    go_ret
    exact ⟨rfl, HB1⟩
  have t2 : decide ((400 : Int) < (y.p.cls.length : Int)) = false := decide_eq_false (by omega)
  by_cases h3 : 8 < y.p.new.start.length
  · have t3 : decide ((8 : Int) < (y.p.new.start.length : Int)) = true := decide_eq_true (by omega)
    clear hL hx hy ix iy h0 h1 h2 h3
    go_enter Tryz.func8, Tryz.ntmps8
    go_upto_region 1 with (fail)
    refine name_wp ?_
    intro X0 hX
    have gbp : Blk X0 w.heap.size 34 (pL x.p x.m) := by rw [hX]; exact (blk_at (by simp)).alloc _
    have gbq : Blk X0 (w.heap.size + 1) 34 (pL y.p y.m) := by rw [hX]; exact blk_at (by simp)
    have HB0 : Below w.heap.size w X0 := by rw [hX]; (repeat (first | with_reducible assumption | with_reducible exact Below.refl _ _ | with_reducible refine below_drewN ?_ _ | with_reducible refine Below.drew ?_ | with_reducible refine below_alloc ?_ _ | with_reducible refine Below.setCell ?_ (by first | omega | (simp; done) | (simp; omega)) _ | with_reducible refine below_then ?_ (by with_reducible assumption) | (refine below_then (a := World.drew _) ?_ (by with_reducible assumption))))
    clear hX
    obtain ⟨bq, ebq⟩ : ∃ b, w.heap.size + 1 = b := ⟨_, rfl⟩
    obtain ⟨bp, ebp⟩ : ∃ b, w.heap.size = b := ⟨_, rfl⟩
    have lbp : w.heap.size ≤ bp := by omega
    have lbq : w.heap.size ≤ bq := by omega
    have nbpbq : bp ≠ bq := by omega
    rw [ebq] at gbq ⊢
    rw [ebp] at gbp ⊢
    clear ebp ebq
    go_upto_region 2 with ((go_at_call 9; (with_reducible refine (HH.out _ HB0).mono ?_); rintro e w1 ⟨rfl, hbw1⟩))
    have HH1 := hbw1
    have HB1 := below_then HB0 HH1
    have gbp_1 := gbp.then_ HH1
    have gbq_1 := gbq.then_ HH1
    clear gbp gbq HB0 HH1
    have a1 : w1.cell? ⟨bp, 1, none⟩ = some (.slice x.m.p x.p.cls.length x.m.pc) := gbp_1.cell 1
    have a6 : w1.cell? ⟨bp, 6, none⟩ = some (.slice x.m.A x.p.new.start.length x.m.cap) := gbp_1.cell 6
    have b1 : w1.cell? ⟨bq, 1, none⟩ = some (.slice y.m.p y.p.cls.length y.m.pc) := gbq_1.cell 1
    have b6 : w1.cell? ⟨bq, 6, none⟩ = some (.slice y.m.A y.p.new.start.length y.m.cap) := gbq_1.cell 6
    go_wp2_with (fail)
    go_ret
    exact ⟨rfl, HB1⟩
  have t3 : decide ((8 : Int) < (y.p.new.start.length : Int)) = false := decide_eq_false (by omega)
  by_cases h4 : 6000 < s.size
  · have t4 : decide ((6000 : Int) < (s.size : Int)) = true := decide_eq_true (by omega)
    clear hL hx hy ix iy h0 h1 h2 h3 h4
    go_enter Tryz.func8, Tryz.ntmps8
    go_upto_region 1 with (fail)
    refine name_wp ?_
    intro X0 hX
    have gbp : Blk X0 w.heap.size 34 (pL x.p x.m) := by rw [hX]; exact (blk_at (by simp)).alloc _
    have gbq : Blk X0 (w.heap.size + 1) 34 (pL y.p y.m) := by rw [hX]; exact blk_at (by simp)
    have HB0 : Below w.heap.size w X0 := by rw [hX]; (repeat (first | with_reducible assumption | with_reducible exact Below.refl _ _ | with_reducible refine below_drewN ?_ _ | with_reducible refine Below.drew ?_ | with_reducible refine below_alloc ?_ _ | with_reducible refine Below.setCell ?_ (by first | omega | (simp; done) | (simp; omega)) _ | with_reducible refine below_then ?_ (by with_reducible assumption) | (refine below_then (a := World.drew _) ?_ (by with_reducible assumption))))
    clear hX
    obtain ⟨bq, ebq⟩ : ∃ b, w.heap.size + 1 = b := ⟨_, rfl⟩
    obtain ⟨bp, ebp⟩ : ∃ b, w.heap.size = b := ⟨_, rfl⟩
    have lbp : w.heap.size ≤ bp := by omega
    have lbq : w.heap.size ≤ bq := by omega
    have nbpbq : bp ≠ bq := by omega
    rw [ebq] at gbq ⊢
    rw [ebp] at gbp ⊢
    clear ebp ebq
    go_upto_region 2 with ((go_at_call 9; (with_reducible refine (HH.out _ HB0).mono ?_); rintro e w1 ⟨rfl, hbw1⟩))
    have HH1 := hbw1
    have HB1 := below_then HB0 HH1
    have gbp_1 := gbp.then_ HH1
    have gbq_1 := gbq.then_ HH1
    clear gbp gbq HB0 HH1
    have a1 : w1.cell? ⟨bp, 1, none⟩ = some (.slice x.m.p x.p.cls.length x.m.pc) := gbp_1.cell 1
    have a6 : w1.cell? ⟨bp, 6, none⟩ = some (.slice x.m.A x.p.new.start.length x.m.cap) := gbp_1.cell 6
    have b1 : w1.cell? ⟨bq, 1, none⟩ = some (.slice y.m.p y.p.cls.length y.m.pc) := gbq_1.cell 1
    have b6 : w1.cell? ⟨bq, 6, none⟩ = some (.slice y.m.A y.p.new.start.length y.m.cap) := gbq_1.cell 6
    go_wp2_with (fail)
    go_ret
    exact ⟨rfl, HB1⟩
  have t4 : decide ((6000 : Int) < (s.size : Int)) = false := decide_eq_false (by omega)
  have hP := hx.patM (by omega) (by omega)
  have hQ := hy.patM (by omega) (by omega)
  obtain ⟨TP, eP'⟩ : ∃ T, x.p.text = T := ⟨_, rfl⟩
  obtain ⟨TQ, eQ'⟩ : ∃ T, y.p.text = T := ⟨_, rfl⟩
  have hpp := parse_text (by omega) (by omega) ix
  have hpq := parse_text (by omega) (by omega) iy
  rw [eP'] at hpp
  rw [eQ'] at hpq
  have lTP : TP.length ≤ 1000000 := by rw [← eP']; exact text_len ix (by omega) (by omega)
  obtain ⟨B, eB⟩ : ∃ B, decide (x.p = y.p) = B := ⟨_, rfl⟩
  have tq : ((bA TP).toList == (bA TQ).toList) = B := by
    rw [bA_toList, bA_toList, ← eB]
    by_cases h : x.p = y.p
    · rw [decide_eq_true h, ← eP', ← eQ', h]; exact beq_self_eq_true _
    · rw [decide_eq_false h, beq_eq_false_iff_ne]
      intro e
      rw [e, hpq] at hpp
      exact h (Option.some.inj hpp).symm
  have HTP := Lib.hid (fun W (hb : Below w.heap.size w W) => text_to W (hL.below hb) x.p x.m TP (hP.then_ hb) (by omega) (by omega) ix eP')
  have HTQ := Lib.hid (fun W (hb : Below w.heap.size w W) => text_to W (hL.below hb) y.p y.m TQ (hQ.then_ hb) (by omega) (by omega) iy eQ')
  have HPP := Lib.hid (fun W (hb : Below w.heap.size w W) => parse_any W (hL.below hb) TP lTP x.p 0 (by unfold parsed; rw [hpp]; rfl) (by unfold parsedE; rw [hpp]; rfl))
  have HSX := Lib.hid (fun W (hb : Below w.heap.size w W) pm (h : PatM W x.p pm) => same_to x.p x.p pm x.m true W h (hP.then_ hb) (by simp))
  have HSB := Lib.hid (fun W (hb : Below w.heap.size w W) => same_to x.p y.p x.m y.m B W (hP.then_ hb) (hQ.then_ hb) eB)
  have hs : bA s.data.toList = s := rfl
  have lS : s.data.toList.length ≤ 1000000 := by rw [Array.length_toList]; show s.size ≤ _; omega
  have hBB : (B == B) = true := beq_self_eq_true B
  cases hps : parseP s.data.toList with
  | some Y =>
    obtain ⟨q1, q2, q3⟩ := parse_back hps
    have q4 := parse_64 hps
    have HPS := Lib.hid (fun W (hb : Below w.heap.size w W) => parse_any W (hL.below hb) s.data.toList lS Y 0 (by unfold parsed; rw [hps]; rfl) (by unfold parsedE; rw [hps]; rfl))
    have HTY := Lib.hid (fun W (hb : Below w.heap.size w W) pm (h : PatM W Y pm) => text_to W (hL.below hb) Y pm s.data.toList h q2 q3 q4 q1)
    rw [hs] at HPS HTY
    clear hL hx hy ix iy hP hQ eP' eQ' hpp hpq lTP eB hs lS hps q1 q2 q3 q4 h0 h1 h2 h3 h4
    go_enter Tryz.func8, Tryz.ntmps8
    go_upto_region 1 with (fail)
    refine name_wp ?_
    intro X0 hX
    have gbp : Blk X0 w.heap.size 34 (pL x.p x.m) := by rw [hX]; exact (blk_at (by simp)).alloc _
    have gbq : Blk X0 (w.heap.size + 1) 34 (pL y.p y.m) := by rw [hX]; exact blk_at (by simp)
    have HB0 : Below w.heap.size w X0 := by rw [hX]; (repeat (first | with_reducible assumption | with_reducible exact Below.refl _ _ | with_reducible refine below_drewN ?_ _ | with_reducible refine Below.drew ?_ | with_reducible refine below_alloc ?_ _ | with_reducible refine Below.setCell ?_ (by first | omega | (simp; done) | (simp; omega)) _ | with_reducible refine below_then ?_ (by with_reducible assumption) | (refine below_then (a := World.drew _) ?_ (by with_reducible assumption))))
    clear hX
    obtain ⟨bq, ebq⟩ : ∃ b, w.heap.size + 1 = b := ⟨_, rfl⟩
    obtain ⟨bp, ebp⟩ : ∃ b, w.heap.size = b := ⟨_, rfl⟩
    have lbp : w.heap.size ≤ bp := by omega
    have lbq : w.heap.size ≤ bq := by omega
    have nbpbq : bp ≠ bq := by omega
    rw [ebq] at gbq ⊢
    rw [ebp] at gbp ⊢
    clear ebp ebq
    go_upto_region 2 with ((go_at_call 9; (with_reducible refine (HH.out _ HB0).mono ?_); rintro e w1 ⟨rfl, hbw1⟩))
    have HH1 := hbw1
    have HB1 := below_then HB0 HH1
    have gbp_1 := gbp.then_ HH1
    have gbq_1 := gbq.then_ HH1
    clear gbp gbq HB0 HH1
    have a1 : w1.cell? ⟨bp, 1, none⟩ = some (.slice x.m.p x.p.cls.length x.m.pc) := gbp_1.cell 1
    have a6 : w1.cell? ⟨bp, 6, none⟩ = some (.slice x.m.A x.p.new.start.length x.m.cap) := gbp_1.cell 6
    have b1 : w1.cell? ⟨bq, 1, none⟩ = some (.slice y.m.p y.p.cls.length y.m.pc) := gbq_1.cell 1
    have b6 : w1.cell? ⟨bq, 6, none⟩ = some (.slice y.m.A y.p.new.start.length y.m.cap) := gbq_1.cell 6
    go_upto_region 4 with (fail)
    clear a1 a6 b1 b6
    go_upto_region 5 with (first | (refine wpList_row_w (by rfl) 34 _ rfl bp rfl 34 _ gbp_1 ⟨_, Tryz.underlying34⟩ (by kernel_rfl) ?_; simp only [Act.put, List.setIfInBounds_toArray, List.set_cons_succ, List.set_cons_zero]) | (go_at_call 17; (with_reducible refine (HTP.out _ HB1).mono ?_); rintro e w3 ⟨rfl, hbw3⟩) | (go_at_call 16; (with_reducible refine (HPP.out _ (below_then HB1 hbw3)).mono ?_); rintro e w4 ⟨⟨pa, rfl, hpa0⟩, hbw4⟩) | (refine wpList_store_all rfl 34 _ _ rfl w4.heap.size 34 [] paZ.toList [] (pL x.p pa).toList rfl rfl (Blk.new _ _ _) rfl (by kernel_rfl) (by simp [Value.oneCell']) ?_; intro u4 gbu4 Uu4))
    have hsu4 : Below w4.heap.size w4 u4 := (wa1 _ _).trans (Uu4.b _ (Nat.le_refl _))
    have HH2 := below_then hbw3 (below_then hbw4 hsu4)
    have HB2 := below_then HB1 HH2
    have gbp_2 := gbp_1.then_ HH2
    have gbq_2 := gbq_1.then_ HH2
    clear gbp_1 gbq_1 HB1 HH2
    have hpa := hpa0.then_ hsu4
    obtain ⟨bu4, ebu4⟩ : ∃ b, w4.heap.size = b := ⟨_, rfl⟩
    rw [ebu4] at gbu4 ⊢
    clear ebu4 Uu4 hsu4 hbw4 hpa0
    go_upto_region 6 with (first | (go_at_call 16; (with_reducible refine (HPS.out _ HB2).mono ?_); rintro e w5 ⟨⟨py, rfl, hpy0⟩, hbw5⟩) | (refine wpList_store_all rfl 34 _ _ rfl w5.heap.size 34 [] paZ.toList [] (pL Y py).toList rfl rfl (Blk.new _ _ _) rfl (by kernel_rfl) (by simp [Value.oneCell']) ?_; intro u5 gbu5 Uu5))
    have hsu5 : Below w5.heap.size w5 u5 := (wa1 _ _).trans (Uu5.b _ (Nat.le_refl _))
    have HH3 := below_then hbw5 hsu5
    have HB3 := below_then HB2 HH3
    have gbp_3 := gbp_2.then_ HH3
    have gbq_3 := gbq_2.then_ HH3
    have gbu4_3 := gbu4.then_ HH3
    have hpa_3 := hpa.then_ HH3
    clear gbp_2 gbq_2 gbu4 hpa HB2 HH3
    have hpy := hpy0.then_ hsu5
    obtain ⟨bu5, ebu5⟩ : ∃ b, w5.heap.size = b := ⟨_, rfl⟩
    rw [ebu5] at gbu5 ⊢
    clear ebu5 Uu5 hsu5 hbw5 hpy0
    go_cut [12] from 55 to 59 (fun v12 W => v12 = .bool B ∧ Below u5.heap.size u5 W)
    case first =>
      refine wp_region_hb (fun w' => Hid (Below u5.heap.size u5 w')) [0, 1, 2, 3] [4, 5] (by kernel_rfl) (by kernel_rfl) (by repeat (first | with_reducible refine panOk_then ?_ | with_reducible refine panOk_block ?_ | exact panOk_body)) (Lib.hid (Below.drew (Below.refl _ _))) (fun hdir hsel hpan hHeld => ?_)
      refine wpHB_take (i := 0) (oi := ⟨some 55, _, _, _, _, _⟩) hdir hsel hpan rfl (by kernel_rfl) (by kernel_rfl) (by kernel_rfl) (yieldsIf_row (by rfl) 34 _ rfl bp rfl 34 _ (fun w hw => (gbp_3.then_ hw.out)) ⟨_, Tryz.underlying34⟩ (by kernel_rfl)) (by assumption) ?_
      try simp only [Act.put, List.setIfInBounds_toArray, List.set_cons_zero, List.set_cons_succ]
      refine wpHB_take (i := 2) (oi := ⟨some 57, _, _, _, _, _⟩) hdir hsel hpan rfl (by kernel_rfl) (by kernel_rfl) (by kernel_rfl) (yieldsIf_row (by rfl) 34 _ rfl bq rfl 34 _ (fun w hw => (gbq_3.then_ hw.out)) ⟨_, Tryz.underlying34⟩ (by kernel_rfl)) (by assumption) ?_
      try simp only [Act.put, List.setIfInBounds_toArray, List.set_cons_zero, List.set_cons_succ]
      refine wpHB_ready (rs := [1]) (by kernel_rfl) (by simp) ?_
      refine AllHB.cons (by kernel_rfl) (o := ⟨some 56, _, _, _, _, _⟩) rfl (fun K hK => ?_) AllHB.nil
      go_simp
      (go_at_call 17; (with_reducible refine (HTP.out _ (below_then HB3 hHeld.out)).mono ?_); rintro e wa ⟨rfl, hba⟩)
      refine hK.out _ _ (Lib.hid (below_then hHeld.out hba)) (fun hHeld2 => ?_)
      clear hK K hHeld
      have hHeld := hHeld2
      clear hHeld2
      try simp only [Act.put, List.setIfInBounds_toArray, List.set_cons_zero, List.set_cons_succ]
      refine wpHB_ready (rs := [3]) (by kernel_rfl) (by simp) ?_
      refine AllHB.cons (by kernel_rfl) (o := ⟨some 58, _, _, _, _, _⟩) rfl (fun K hK => ?_) AllHB.nil
      go_simp
      (go_at_call 17; (with_reducible refine (HTQ.out _ (below_then HB3 hHeld.out)).mono ?_); rintro e wa ⟨rfl, hba⟩)
      refine hK.out _ _ (Lib.hid (below_then hHeld.out hba)) (fun hHeld2 => ?_)
      clear hK K hHeld
      have hHeld := hHeld2
      clear hHeld2
      try simp only [Act.put, List.setIfInBounds_toArray, List.set_cons_zero, List.set_cons_succ]
      refine wpHB_tail (by kernel_rfl) (by kernel_rfl) ?_
      clear hdir hsel hpan
      simp only [opsAt, List.getElem?_toArray, List.getElem?_cons_succ, List.getElem?_cons_zero, Option.toList_some, List.cons_append, List.nil_append]
      go_wp2
      go_meet
      case rel => exact ⟨rfl, hHeld.out⟩
    obtain ⟨rfl, hb6⟩ := hcut
    obtain ⟨W6, rfl⟩ : ∃ W, W = wc := ⟨_, rfl⟩
    have HH4 := hb6
    have HB4 := below_then HB3 HH4
    have gbp_4 := gbp_3.then_ HH4
    have gbq_4 := gbq_3.then_ HH4
    have gbu4_4 := gbu4_3.then_ HH4
    have hpa_4 := hpa_3.then_ HH4
    have gbu5_4 := gbu5.then_ HH4
    have hpy_4 := hpy.then_ HH4
    clear gbp_3 gbq_3 gbu4_3 hpa_3 gbu5 hpy HB3 HH4
    have ts : (s.toList == s.toList) = true := beq_self_eq_true _
    go_upto_region 9 with (first | (refine wpList_row_w (by rfl) 34 _ rfl bu5 rfl 34 _ gbu5_4 ⟨_, Tryz.underlying34⟩ (by kernel_rfl) ?_; simp only [Act.put, List.setIfInBounds_toArray, List.set_cons_succ, List.set_cons_zero]) | (go_at_call 17; (with_reducible refine (HTY.out _ HB4 py hpy_4).mono ?_); rintro e w7 ⟨rfl, hbw7⟩))
    have HH5 := hbw7
    have HB5 := below_then HB4 HH5
    have gbp_5 := gbp_4.then_ HH5
    have gbq_5 := gbq_4.then_ HH5
    have gbu4_5 := gbu4_4.then_ HH5
    have hpa_5 := hpa_4.then_ HH5
    have gbu5_5 := gbu5_4.then_ HH5
    have hpy_5 := hpy_4.then_ HH5
    clear gbp_4 gbq_4 gbu4_4 hpa_4 gbu5_4 hpy_4 HB4 HH5
    go_wp2_with (first | (refine wpList_row_w (by rfl) 34 _ rfl bu4 rfl 34 _ gbu4_5 ⟨_, Tryz.underlying34⟩ (by kernel_rfl) ?_; simp only [Act.put, List.setIfInBounds_toArray, List.set_cons_succ, List.set_cons_zero]) | (refine wpList_row_w (by rfl) 34 _ rfl bp rfl 34 _ gbp_5 ⟨_, Tryz.underlying34⟩ (by kernel_rfl) ?_; simp only [Act.put, List.setIfInBounds_toArray, List.set_cons_succ, List.set_cons_zero]) | (go_at_call 18; (with_reducible refine (HSX.out _ HB5 pa hpa_5).mono ?_); rintro e x1 ⟨rfl, hbx1⟩; have gp1 := gbp_5.then_ hbx1; have gq1 := gbq_5.then_ hbx1; have HBx := below_then HB5 hbx1) | (refine wpList_row_w (by rfl) 34 _ rfl bp rfl 34 _ gp1 ⟨_, Tryz.underlying34⟩ (by kernel_rfl) ?_; simp only [Act.put, List.setIfInBounds_toArray, List.set_cons_succ, List.set_cons_zero]) | (refine wpList_row_w (by rfl) 34 _ rfl bq rfl 34 _ gq1 ⟨_, Tryz.underlying34⟩ (by kernel_rfl) ?_; simp only [Act.put, List.setIfInBounds_toArray, List.set_cons_succ, List.set_cons_zero]) | (go_at_call 18; (with_reducible refine (HSB.out _ HBx).mono ?_); rintro e x2 ⟨rfl, hbx2⟩))
    go_ret
    exact ⟨by (try simp); (try rfl), below_then HBx hbx2⟩
  | none =>
    have HPS := Lib.hid (fun W (hb : Below w.heap.size w W) => parse_any W (hL.below hb) s.data.toList lS Pat.zero0 6 (by unfold parsed; rw [hps]; rfl) (by unfold parsedE; rw [hps]; rfl))
    rw [hs] at HPS
    clear hL hx hy ix iy hP hQ eP' eQ' hpp hpq lTP eB hs lS hps h0 h1 h2 h3 h4
    go_enter Tryz.func8, Tryz.ntmps8
    go_upto_region 1 with (fail)
    refine name_wp ?_
    intro X0 hX
    have gbp : Blk X0 w.heap.size 34 (pL x.p x.m) := by rw [hX]; exact (blk_at (by simp)).alloc _
    have gbq : Blk X0 (w.heap.size + 1) 34 (pL y.p y.m) := by rw [hX]; exact blk_at (by simp)
    have HB0 : Below w.heap.size w X0 := by rw [hX]; (repeat (first | with_reducible assumption | with_reducible exact Below.refl _ _ | with_reducible refine below_drewN ?_ _ | with_reducible refine Below.drew ?_ | with_reducible refine below_alloc ?_ _ | with_reducible refine Below.setCell ?_ (by first | omega | (simp; done) | (simp; omega)) _ | with_reducible refine below_then ?_ (by with_reducible assumption) | (refine below_then (a := World.drew _) ?_ (by with_reducible assumption))))
    clear hX
    obtain ⟨bq, ebq⟩ : ∃ b, w.heap.size + 1 = b := ⟨_, rfl⟩
    obtain ⟨bp, ebp⟩ : ∃ b, w.heap.size = b := ⟨_, rfl⟩
    have lbp : w.heap.size ≤ bp := by omega
    have lbq : w.heap.size ≤ bq := by omega
    have nbpbq : bp ≠ bq := by omega
    rw [ebq] at gbq ⊢
    rw [ebp] at gbp ⊢
    clear ebp ebq
    go_upto_region 2 with ((go_at_call 9; (with_reducible refine (HH.out _ HB0).mono ?_); rintro e w1 ⟨rfl, hbw1⟩))
    have HH1 := hbw1
    have HB1 := below_then HB0 HH1
    have gbp_1 := gbp.then_ HH1
    have gbq_1 := gbq.then_ HH1
    clear gbp gbq HB0 HH1
    have a1 : w1.cell? ⟨bp, 1, none⟩ = some (.slice x.m.p x.p.cls.length x.m.pc) := gbp_1.cell 1
    have a6 : w1.cell? ⟨bp, 6, none⟩ = some (.slice x.m.A x.p.new.start.length x.m.cap) := gbp_1.cell 6
    have b1 : w1.cell? ⟨bq, 1, none⟩ = some (.slice y.m.p y.p.cls.length y.m.pc) := gbq_1.cell 1
    have b6 : w1.cell? ⟨bq, 6, none⟩ = some (.slice y.m.A y.p.new.start.length y.m.cap) := gbq_1.cell 6
    go_upto_region 4 with (fail)
    clear a1 a6 b1 b6
    go_upto_region 5 with (first | (refine wpList_row_w (by rfl) 34 _ rfl bp rfl 34 _ gbp_1 ⟨_, Tryz.underlying34⟩ (by kernel_rfl) ?_; simp only [Act.put, List.setIfInBounds_toArray, List.set_cons_succ, List.set_cons_zero]) | (go_at_call 17; (with_reducible refine (HTP.out _ HB1).mono ?_); rintro e w3 ⟨rfl, hbw3⟩) | (go_at_call 16; (with_reducible refine (HPP.out _ (below_then HB1 hbw3)).mono ?_); rintro e w4 ⟨⟨pa, rfl, hpa0⟩, hbw4⟩) | (refine wpList_store_all rfl 34 _ _ rfl w4.heap.size 34 [] paZ.toList [] (pL x.p pa).toList rfl rfl (Blk.new _ _ _) rfl (by kernel_rfl) (by simp [Value.oneCell']) ?_; intro u4 gbu4 Uu4))
    have hsu4 : Below w4.heap.size w4 u4 := (wa1 _ _).trans (Uu4.b _ (Nat.le_refl _))
    have HH2 := below_then hbw3 (below_then hbw4 hsu4)
    have HB2 := below_then HB1 HH2
    have gbp_2 := gbp_1.then_ HH2
    have gbq_2 := gbq_1.then_ HH2
    clear gbp_1 gbq_1 HB1 HH2
    have hpa := hpa0.then_ hsu4
    obtain ⟨bu4, ebu4⟩ : ∃ b, w4.heap.size = b := ⟨_, rfl⟩
    rw [ebu4] at gbu4 ⊢
    clear ebu4 Uu4 hsu4 hbw4 hpa0
    go_upto_region 6 with (first | (go_at_call 16; (with_reducible refine (HPS.out _ HB2).mono ?_); rintro e w5 ⟨⟨py, rfl, hpy0⟩, hbw5⟩) | (refine wpList_store_all rfl 34 _ _ rfl w5.heap.size 34 [] paZ.toList [] (pL Pat.zero0 py).toList rfl rfl (Blk.new _ _ _) rfl (by kernel_rfl) (by simp [Value.oneCell']) ?_; intro u5 gbu5 Uu5))
    have hsu5 : Below w5.heap.size w5 u5 := (wa1 _ _).trans (Uu5.b _ (Nat.le_refl _))
    have HH3 := below_then hbw5 hsu5
    have HB3 := below_then HB2 HH3
    have gbp_3 := gbp_2.then_ HH3
    have gbq_3 := gbq_2.then_ HH3
    have gbu4_3 := gbu4.then_ HH3
    have hpa_3 := hpa.then_ HH3
    clear gbp_2 gbq_2 gbu4 hpa HB2 HH3
    have hpy := hpy0.then_ hsu5
    obtain ⟨bu5, ebu5⟩ : ∃ b, w5.heap.size = b := ⟨_, rfl⟩
    rw [ebu5] at gbu5 ⊢
    clear ebu5 Uu5 hsu5 hbw5 hpy0
    go_cut [12] from 55 to 59 (fun v12 W => v12 = .bool B ∧ Below u5.heap.size u5 W)
    case first =>
      refine wp_region_hb (fun w' => Hid (Below u5.heap.size u5 w')) [0, 1, 2, 3] [4, 5] (by kernel_rfl) (by kernel_rfl) (by repeat (first | with_reducible refine panOk_then ?_ | with_reducible refine panOk_block ?_ | exact panOk_body)) (Lib.hid (Below.drew (Below.refl _ _))) (fun hdir hsel hpan hHeld => ?_)
      refine wpHB_take (i := 0) (oi := ⟨some 55, _, _, _, _, _⟩) hdir hsel hpan rfl (by kernel_rfl) (by kernel_rfl) (by kernel_rfl) (yieldsIf_row (by rfl) 34 _ rfl bp rfl 34 _ (fun w hw => (gbp_3.then_ hw.out)) ⟨_, Tryz.underlying34⟩ (by kernel_rfl)) (by assumption) ?_
      try simp only [Act.put, List.setIfInBounds_toArray, List.set_cons_zero, List.set_cons_succ]
      refine wpHB_take (i := 2) (oi := ⟨some 57, _, _, _, _, _⟩) hdir hsel hpan rfl (by kernel_rfl) (by kernel_rfl) (by kernel_rfl) (yieldsIf_row (by rfl) 34 _ rfl bq rfl 34 _ (fun w hw => (gbq_3.then_ hw.out)) ⟨_, Tryz.underlying34⟩ (by kernel_rfl)) (by assumption) ?_
      try simp only [Act.put, List.setIfInBounds_toArray, List.set_cons_zero, List.set_cons_succ]
      refine wpHB_ready (rs := [1]) (by kernel_rfl) (by simp) ?_
      refine AllHB.cons (by kernel_rfl) (o := ⟨some 56, _, _, _, _, _⟩) rfl (fun K hK => ?_) AllHB.nil
      go_simp
      (go_at_call 17; (with_reducible refine (HTP.out _ (below_then HB3 hHeld.out)).mono ?_); rintro e wa ⟨rfl, hba⟩)
      refine hK.out _ _ (Lib.hid (below_then hHeld.out hba)) (fun hHeld2 => ?_)
      clear hK K hHeld
      have hHeld := hHeld2
      clear hHeld2
      try simp only [Act.put, List.setIfInBounds_toArray, List.set_cons_zero, List.set_cons_succ]
      refine wpHB_ready (rs := [3]) (by kernel_rfl) (by simp) ?_
      refine AllHB.cons (by kernel_rfl) (o := ⟨some 58, _, _, _, _, _⟩) rfl (fun K hK => ?_) AllHB.nil
      go_simp
      (go_at_call 17; (with_reducible refine (HTQ.out _ (below_then HB3 hHeld.out)).mono ?_); rintro e wa ⟨rfl, hba⟩)
      refine hK.out _ _ (Lib.hid (below_then hHeld.out hba)) (fun hHeld2 => ?_)
      clear hK K hHeld
      have hHeld := hHeld2
      clear hHeld2
      try simp only [Act.put, List.setIfInBounds_toArray, List.set_cons_zero, List.set_cons_succ]
      refine wpHB_tail (by kernel_rfl) (by kernel_rfl) ?_
      clear hdir hsel hpan
      simp only [opsAt, List.getElem?_toArray, List.getElem?_cons_succ, List.getElem?_cons_zero, Option.toList_some, List.cons_append, List.nil_append]
      go_wp2
      go_meet
      case rel => exact ⟨rfl, hHeld.out⟩
    obtain ⟨rfl, hb6⟩ := hcut
    obtain ⟨W6, rfl⟩ : ∃ W, W = wc := ⟨_, rfl⟩
    have HH4 := hb6
    have HB4 := below_then HB3 HH4
    have gbp_4 := gbp_3.then_ HH4
    have gbq_4 := gbq_3.then_ HH4
    have gbu4_4 := gbu4_3.then_ HH4
    have hpa_4 := hpa_3.then_ HH4
    have gbu5_4 := gbu5.then_ HH4
    have hpy_4 := hpy.then_ HH4
    clear gbp_3 gbq_3 gbu4_3 hpa_3 gbu5 hpy HB3 HH4
    go_upto_region 9 with (fail)
    go_wp2_with (first | (refine wpList_row_w (by rfl) 34 _ rfl bu4 rfl 34 _ gbu4_4 ⟨_, Tryz.underlying34⟩ (by kernel_rfl) ?_; simp only [Act.put, List.setIfInBounds_toArray, List.set_cons_succ, List.set_cons_zero]) | (refine wpList_row_w (by rfl) 34 _ rfl bp rfl 34 _ gbp_4 ⟨_, Tryz.underlying34⟩ (by kernel_rfl) ?_; simp only [Act.put, List.setIfInBounds_toArray, List.set_cons_succ, List.set_cons_zero]) | (go_at_call 18; (with_reducible refine (HSX.out _ HB4 pa hpa_4).mono ?_); rintro e x1 ⟨rfl, hbx1⟩; have gp1 := gbp_4.then_ hbx1; have gq1 := gbq_4.then_ hbx1; have HBx := below_then HB4 hbx1) | (refine wpList_row_w (by rfl) 34 _ rfl bp rfl 34 _ gp1 ⟨_, Tryz.underlying34⟩ (by kernel_rfl) ?_; simp only [Act.put, List.setIfInBounds_toArray, List.set_cons_succ, List.set_cons_zero]) | (refine wpList_row_w (by rfl) 34 _ rfl bq rfl 34 _ gq1 ⟨_, Tryz.underlying34⟩ (by kernel_rfl) ?_; simp only [Act.put, List.setIfInBounds_toArray, List.set_cons_succ, List.set_cons_zero]) | (go_at_call 18; (with_reducible refine (HSB.out _ HBx).mono ?_); rintro e x2 ⟨rfl, hbx2⟩))
    go_ret
    exact ⟨by (try simp); (try rfl), below_then HBx hbx2⟩
end Go.Proofs.YtplommmegkdhdaaGreatDoor
