/-  The document's answer for numbers: may, times, arith: they reckon as the program does. -/
import Derived.Test.YtddnkjeogidfcaaDoorBig
import Derived.Test.YtddnkjeogidfcaaDoorReckon
import Derived.Test.YtddnkjeogidfcaaDoorQTail
namespace Go.Proofs.YtddnkjeogidfcaaDoor
open Go.RowKit Go.Shelf Go

set_option maxHeartbeats 1000000 in
theorem ref_may2 (a b : GV) (v : Value) (w : World) (hv : VS w v [a, b]) :
    Calls Tryd.prog 27 #[v] w (Rets (.bool (a.ok && b.ok)) w) := by
  obtain ⟨A, d, hvv, hlen, hcell⟩ := hv
  obtain rfl : v = .slice A 2 d := hvv
  obtain ⟨p, o, rfl, c0, c1, c2⟩ := hcell 0 a rfl
  obtain ⟨p', o', he, g0, g1, g2⟩ := hcell 1 b rfl
  simp only [Option.some.injEq, Addr.mk.injEq, and_true] at he
  obtain ⟨rfl, rfl⟩ := he
  rw [Nat.zero_mul, Nat.add_zero] at c0 c1 c2
  rw [Nat.one_mul] at g0 g1 g2
  have hp : p < w.heap.size := lt_of_cell c0
  have ca := fun W => ref_Check a W
  have cb := fun W => ref_Check b W
  clear hcell hlen
  unfold GV.val at ca cb
  cases hqa : a.ok with
  | false =>
    rw [hqa] at ca
    unfold okNo at ca cb
    simp only [Bool.false_eq_true, if_false] at ca
    clear hqa cb
    go_enter Tryd.func27, Tryd.ntmps27
    go_wp2_with fail
    refine wp_loop_rounds 3 ?_
    rw [rounds_succ]
    go_wp2_with fail
    refine (ca _).mono ?_
    rintro e w1 ⟨rfl, hb1⟩
    have hB1 := later (w := w) (by go_grown) hb1
    go_wp2_with fail
    go_returns
    exact Rets.bool rfl hB1
  | true =>
    rw [hqa] at ca
    cases hqb : b.ok with
    | false =>
      rw [hqb] at cb
      unfold okNo at ca cb
      simp only [Bool.false_eq_true, if_false, if_true] at ca cb
      clear hqa hqb
      go_enter Tryd.func27, Tryd.ntmps27
      go_wp2_with fail
      refine wp_loop_rounds 3 ?_
      rw [rounds_succ]
      go_wp2_with fail
      refine (ca _).mono ?_
      rintro e w1 ⟨rfl, hb1⟩
      have hB1 := later (w := w) (by go_grown) hb1
      have k0 := cell_below hb1 (cell_alloc g0)
      have k1 := cell_below hb1 (cell_alloc g1)
      have k2 := cell_below hb1 (cell_alloc g2)
      have hp1 : p < w1.heap.size := lt_of_cell k0
      clear hb1 g0 g1 g2
      go_wp2_with fail
      rw [rounds_succ]
      go_wp2_with fail
      refine (cb _).mono ?_
      rintro e w2 ⟨rfl, hb2⟩
      have hB2 := later (hB1.alloc hB1.size _) hb2
      go_wp2_with fail
      go_returns
      exact Rets.bool rfl hB2
    | true =>
      rw [hqb] at cb
      unfold okNo at ca cb
      simp only [if_true] at ca cb
      clear hqa hqb
      go_enter Tryd.func27, Tryd.ntmps27
      go_wp2_with fail
      refine wp_loop_rounds 3 ?_
      rw [rounds_succ]
      go_wp2_with fail
      refine (ca _).mono ?_
      rintro e w1 ⟨rfl, hb1⟩
      have hB1 := later (w := w) (by go_grown) hb1
      have k0 := cell_below hb1 (cell_alloc g0)
      have k1 := cell_below hb1 (cell_alloc g1)
      have k2 := cell_below hb1 (cell_alloc g2)
      have hp1 : p < w1.heap.size := lt_of_cell k0
      clear hb1 g0 g1 g2
      go_wp2_with fail
      rw [rounds_succ]
      go_wp2_with fail
      refine (cb _).mono ?_
      rintro e w2 ⟨rfl, hb2⟩
      have hB2 := later (hB1.alloc hB1.size _) hb2
      go_wp2_with fail
      rw [rounds_succ]
      go_wp2_with fail
      go_returns
      exact Rets.bool rfl hB2

theorem Rets.pairB {n n' : Int} {q q' : Bool} {w w' : World} (h : n' = n) (h2 : q' = q) (hb : Below w.heap.size w w') : Rets (.tuple #[.int .i64 n, .bool q]) w (.returned (.tuple #[.int .i64 n', .bool q'])) w' := ⟨by rw [h, h2], hb⟩

theorem wrap64_zero : wrap64 0 = 0 := by unfold wrap64; omega

/-- Divided back it is the same just if nothing was lost. -/
theorem times_back (a b : Int) (_ha : I64 a) (hb : I64 b) (h0 : b ≠ 0) (h1 : b ≠ -1) : (wrap64 ((wrap64 (a * b)).tdiv b) == a) = fits (a * b) := by
  have hin2 : I64 (wrap64 (a * b)) := by unfold I64 wrap64; omega
  rw [fits_wrap (tdiv_fits _ b hin2 (fun h => h1 h.2) h0)]
  cases hf : fits (a * b) with
  | true =>
    rw [fits_wrap hf, Int.mul_tdiv_cancel _ h0, beq_self_eq_true]
  | false =>
    refine beq_eq_false_iff_ne.2 fun he => ?_
    have hr := Int.mul_tdiv_add_tmod (wrap64 (a * b)) b
    rw [he] at hr
    have hm : ((wrap64 (a * b)).tmod b).natAbs < b.natAbs := by
      rw [Int.natAbs_tmod]
      exact Nat.mod_lt _ (by omega)
    have hk : ∃ k : Int, wrap64 (a * b) = a * b + k * 18446744073709551616 := ⟨-((a * b + 9223372036854775808) / 18446744073709551616), by unfold wrap64; omega⟩
    obtain ⟨k, hk⟩ := hk
    rw [Int.mul_comm b a] at hr
    have hbb : b.natAbs ≤ 9223372036854775808 := by unfold I64 at hb; omega
    generalize hz : (wrap64 (a * b)).tmod b = r at *
    have : k = 0 := by omega
    rw [this] at hk
    have hw : wrap64 (a * b) = a * b := by omega
    have hin : fits (wrap64 (a * b)) = true := by unfold fits wrap64; exact decide_eq_true (by omega)
    rw [hw, hf] at hin
    cases hin

set_option maxHeartbeats 1000000 in
theorem ref_times (a b : Int) (w : World) (ha : I64 a) (hb : I64 b) :
    Calls Tryd.prog 41 #[.int .i64 a, .int .i64 b] w (Rets (.tuple #[.int .i64 (wrap64 (a * b)), .bool (fits (a * b))]) w) := by
  have HA := Lib.hid ha
  have HB := Lib.hid hb
  by_cases h0 : a = 0
  · subst h0
    go_enter Tryd.func41, Tryd.ntmps41
    go_wp2
    go_returns
    exact Rets.pairB (by rw [Int.zero_mul]; exact wrap64_zero.symm) (by rw [Int.zero_mul]; rfl) (Below.refl _ _)
  have h0' : (a == 0) = false := beq_eq_false_iff_ne.2 h0
  have H0 := Lib.hid h0
  by_cases g0 : b = 0
  · subst g0
    clear h0
    go_enter Tryd.func41, Tryd.ntmps41
    go_wp2
    go_returns
    exact Rets.pairB (by rw [Int.mul_zero]; exact wrap64_zero.symm) (by rw [Int.mul_zero]; rfl) (Below.refl _ _)
  have g0' : (b == 0) = false := beq_eq_false_iff_ne.2 g0
  have G0 := Lib.hid g0
  by_cases h1 : a = -1
  · subst h1
    clear h0 g0 h0' H0
    go_enter Tryd.func41, Tryd.ntmps41
    go_wp2
    all_goals go_returns
    all_goals refine Rets.pairB ?_ ?_ (Below.refl _ _)
    all_goals (have hbb := HB.out; unfold I64 at hbb; clear HA HB ha hb)
    all_goals first | (unfold wrap64; omega) | skip
    all_goals (unfold fits; first | exact (decide_eq_true (by omega)).symm | exact (decide_eq_false (by omega)).symm | (rw [Bool.eq_iff_iff]; simp; omega))
  have h1' : (a == -1) = false := beq_eq_false_iff_ne.2 h1
  by_cases g1 : b = -1
  · subst g1
    clear h0 g0 h1
    go_enter Tryd.func41, Tryd.ntmps41
    go_wp2
    all_goals go_returns
    all_goals refine Rets.pairB ?_ ?_ (Below.refl _ _)
    all_goals (have hbb := HA.out; unfold I64 at hbb; clear HA HB ha hb)
    all_goals first | (unfold wrap64; omega) | skip
    all_goals (unfold fits; first | exact (decide_eq_true (by omega)).symm | exact (decide_eq_false (by omega)).symm | (rw [Bool.eq_iff_iff]; simp; omega))
  have g1' : (b == -1) = false := beq_eq_false_iff_ne.2 g1
  have HT := Lib.hid (times_back a b ha hb g0 g1)
  clear h0 h1 g1 ha hb
  go_enter Tryd.func41, Tryd.ntmps41
  go_wp2_with fail
  go_quiet (fail)
  go_wp2
  all_goals go_returns
  exact Rets.pairB rfl HT.out (belowN (Below.refl _ _) _)

/-- The document's arith. -/
theorem wrap_I64 (n : Int) : I64 (wrap64 n) := by unfold I64 wrap64; omega

theorem over_end {n X : Int} {q : Bool} (hX : X = wrap64 n) (hq : q = fits n) : over n = if q then (X, 0) else (0, 30) := by
  subst hq
  unfold over
  cases h : fits n with
  | true => rw [hX, fits_wrap h]
  | false => rfl

theorem add_fits (a b : Int) (ha : I64 a) (hb : I64 b) : (decide (b ≥ 0) == decide (wrap64 (a + b) ≥ a)) = fits (a + b) := by
  rw [dec_iff]
  unfold fits
  unfold I64 at ha hb
  refine decide_eq_decide.2 ?_
  unfold wrap64
  omega
theorem sub_fits (a b : Int) (ha : I64 a) (hb : I64 b) : (decide (b ≥ 0) == decide (wrap64 (a - b) ≤ a)) = fits (a - b) := by
  rw [dec_iff]
  unfold fits
  unfold I64 at ha hb
  refine decide_eq_decide.2 ?_
  unfold wrap64
  omega

theorem over_no {n m : Int} (h : (!fits n) = true) : over n = (0, 30) := by
  have : fits n = false := by simpa using h
  unfold over; rw [this]; rfl
theorem over_yes {n m : Int} (h : (!fits n) = false) (hm : m = wrap64 n) : over n = (m, 0) := by
  have : fits n = true := by simpa using h
  unfold over; rw [this, hm, fits_wrap this]; rfl

set_option maxHeartbeats 1000000 in
theorem ref_arith_add (a b : Int) (w : World) (ha : I64 a) (hb : I64 b) :
    Calls Tryd.prog 28 #[.string ⟨#[43]⟩, .int .i64 a, .int .i64 b] w (Rets (.tuple #[.int .i64 (reckonS [43] a b).1, .int .i64 (reckonS [43] a b).2]) w) := by
  rw [show reckonS [43] a b = over (a + b) from rfl]
  have hf : Hid ((decide (0 ≤ b) == decide (a ≤ wrap64 (a + b))) = fits (a + b)) := Lib.hid (add_fits a b ha hb)
  clear ha hb
  go_enter Tryd.func28, Tryd.ntmps28
  go_wp2
  all_goals go_returns
  all_goals (refine Rets.pair ?_ (Below.refl _ _); rename_i h; rw [hf.out] at h)
  all_goals first | exact over_no (m := 0) h | exact over_yes h rfl

set_option maxHeartbeats 1000000 in
theorem ref_arith_sub (a b : Int) (w : World) (ha : I64 a) (hb : I64 b) :
    Calls Tryd.prog 28 #[.string ⟨#[45]⟩, .int .i64 a, .int .i64 b] w (Rets (.tuple #[.int .i64 (reckonS [45] a b).1, .int .i64 (reckonS [45] a b).2]) w) := by
  rw [show reckonS [45] a b = over (a - b) from rfl]
  have hf : Hid ((decide (0 ≤ b) == decide (wrap64 (a - b) ≤ a)) = fits (a - b)) := Lib.hid (sub_fits a b ha hb)
  clear ha hb
  go_enter Tryd.func28, Tryd.ntmps28
  go_wp2
  all_goals go_returns
  all_goals (refine Rets.pair ?_ (Below.refl _ _); rename_i h; rw [hf.out] at h)
  all_goals first | exact over_no (m := 0) h | exact over_yes h rfl

set_option maxHeartbeats 1000000 in
theorem ref_arith_mul (a b : Int) (w : World) (ha : I64 a) (hb : I64 b) :
    Calls Tryd.prog 28 #[.string ⟨#[42]⟩, .int .i64 a, .int .i64 b] w (Rets (.tuple #[.int .i64 (reckonS [42] a b).1, .int .i64 (reckonS [42] a b).2]) w) := by
  rw [show reckonS [42] a b = over (a * b) from rfl]
  have hc := ref_times a b w ha hb
  clear ha hb
  cases hq : fits (a * b) with
  | false =>
    rw [hq] at hc
    have HQ := Lib.hid hq; clear hq
    go_enter Tryd.func28, Tryd.ntmps28
    go_wp2_with fail
    refine hc.mono ?_
    rintro e w1 ⟨rfl, hb1⟩
    go_wp2
    go_returns
    exact Rets.pair (show over (a * b) = (0, 30) from over_no (m := 0) (by rw [HQ.out]; rfl)) hb1
  | true =>
    rw [hq] at hc
    have HQ := Lib.hid hq; clear hq
    go_enter Tryd.func28, Tryd.ntmps28
    go_wp2_with fail
    refine hc.mono ?_
    rintro e w1 ⟨rfl, hb1⟩
    go_wp2
    go_returns
    exact Rets.pair (show over (a * b) = (wrap64 (a * b), 0) from over_yes (by rw [HQ.out]; rfl) rfl) hb1

set_option maxHeartbeats 1000000 in
theorem ref_arith_rem (a b : Int) (w : World) :
    Calls Tryd.prog 28 #[.string ⟨#[37]⟩, .int .i64 a, .int .i64 b] w (Rets (.tuple #[.int .i64 (reckonS [37] a b).1, .int .i64 (reckonS [37] a b).2]) w) := by
  rw [reckonS_rem]
  by_cases h0 : b = 0
  · subst h0
    rw [if_pos rfl]
    go_enter Tryd.func28, Tryd.ntmps28
    go_wp2
    go_returns
    exact Rets.pair rfl (Below.refl _ _)
  by_cases h1 : b = -1
  · subst h1
    clear h0
    rw [if_neg (by decide), if_pos rfl]
    go_enter Tryd.func28, Tryd.ntmps28
    go_wp2
    go_returns
    exact Rets.pair rfl (Below.refl _ _)
  · rw [if_neg h0, if_neg h1]
    have h0' : (b == 0) = false := beq_eq_false_iff_ne.2 h0
    have h1' : (b == -1) = false := beq_eq_false_iff_ne.2 h1
    clear h1
    go_enter Tryd.func28, Tryd.ntmps28
    go_wp2
    go_returns
    exact Rets.pair rfl (Below.refl _ _)

set_option maxHeartbeats 1000000 in
theorem ref_arith_quo (a b : Int) (w : World) (ha : I64 a) :
    Calls Tryd.prog 28 #[.string ⟨#[47]⟩, .int .i64 a, .int .i64 b] w (Rets (.tuple #[.int .i64 (reckonS [47] a b).1, .int .i64 (reckonS [47] a b).2]) w) := by
  rw [reckonS_quo]
  by_cases h0 : b = 0
  · subst h0
    rw [if_pos rfl]
    clear ha
    go_enter Tryd.func28, Tryd.ntmps28
    go_wp2
    go_returns
    exact Rets.pair rfl (Below.refl _ _)
  by_cases h1 : b = -1
  · subst h1
    clear h0
    have hc := ref_arith_sub 0 a w (by unfold I64; omega) ha
    rw [show reckonS [45] 0 a = over (0 - a) from rfl] at hc
    rw [if_neg (by decide), Int.tdiv_neg, Int.tdiv_one, show -a = 0 - a from (Int.zero_sub a).symm]
    clear ha
    generalize over (0 - a) = p at hc ⊢
    obtain ⟨n, er⟩ := p
    go_enter Tryd.func28, Tryd.ntmps28
    go_wp2_with fail
    refine hc.mono ?_
    rintro e w1 ⟨rfl, hb1⟩
    go_wp2
    go_returns
    exact Rets.pair rfl hb1
  · rw [if_neg h0]
    have hf := Lib.hid (tdiv_fits a b ha (fun h => h1 h.2) h0)
    have h0' : (b == 0) = false := beq_eq_false_iff_ne.2 h0
    have h1' : (b == -1) = false := beq_eq_false_iff_ne.2 h1
    clear h1 ha
    go_enter Tryd.func28, Tryd.ntmps28
    go_wp2
    go_returns
    exact Rets.pair (show over (a.tdiv b) = (wrap64 (a.tdiv b), 0) from over_yes (by rw [hf.out]; rfl) rfl) (Below.refl _ _)
end Go.Proofs.YtddnkjeogidfcaaDoor
