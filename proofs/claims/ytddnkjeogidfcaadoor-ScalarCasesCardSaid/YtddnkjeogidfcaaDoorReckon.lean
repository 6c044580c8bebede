/-  scalar.reckon and what it calls: each of the five signs. -/
import Derived.Test.YtddnkjeogidfcaaDoorVS
import Derived.Test.YtddnkjeogidfcaaDoorScal
import Derived.Test.YtddnkjeogidfcaaDoorShelf
namespace Go.Proofs.YtddnkjeogidfcaaDoor
open Go.RowKit Go.Shelf Go

theorem dec_iff (p q : Prop) [Decidable p] [Decidable q] : (decide p == decide q) = decide (p ↔ q) := by
  by_cases p <;> by_cases q <;> simp [*]

set_option maxHeartbeats 400000 in
theorem scalar_size (a : Int) (w : World) (ha : I64 a) :
    Calls Tryd.prog 40 #[.int .i64 a] w fun e w' => e = .returned (.int .u64 (a.natAbs : Int)) ∧ w' = w := by
  have h1 := Lib.hid (size_neg a ha)
  have h2 := Lib.hid (size_pos a ha)
  clear ha
  go_enter Tryd.func40, Tryd.ntmps40
  go_wp2
  · have h : a < 0 := by assumption
    go_returns; exact ⟨congrArg (fun n => Ending.returned (.int .u64 n)) (h1.out h), rfl⟩
  · have h : 0 ≤ a := by assumption
    go_returns; exact ⟨congrArg (fun n => Ending.returned (.int .u64 n)) (h2.out h), rfl⟩

set_option maxHeartbeats 400000 in
theorem reckon_add (a b : Int) (w : World) (ha : I64 a) (hb : I64 b) :
    Calls Tryd.prog 25 #[.string ⟨#[43]⟩, .int .i64 a, .int .i64 b] w (Rets (.tuple #[.int .i64 (reckonS [43] a b).1, .int .i64 (reckonS [43] a b).2]) w) := by
  have hr : reckonS [43] a b = over (a + b) := rfl
  have ho := Lib.hid (add_over a b ha hb)
  rw [hr]; clear hr ha hb
  go_enter Tryd.func25, Tryd.ntmps25
  go_wp2
  all_goals go_returns
  all_goals go_light
  all_goals refine Rets.pair ?_ (Below.refl _ _)
  all_goals unfold over
  · rw [ho.out.1 ⟨by assumption, by assumption⟩]; rfl
  all_goals
    cases h : fits (a + b) with
    | true => rw [fits_wrap h]; rfl
    | false => have := ho.out.2 h; omega

set_option maxHeartbeats 400000 in
theorem reckon_sub (a b : Int) (w : World) (ha : I64 a) (hb : I64 b) :
    Calls Tryd.prog 25 #[.string ⟨#[45]⟩, .int .i64 a, .int .i64 b] w (Rets (.tuple #[.int .i64 (reckonS [45] a b).1, .int .i64 (reckonS [45] a b).2]) w) := by
  have hr : reckonS [45] a b = over (a - b) := rfl
  have ho := sub_over a b ha hb
  rw [← xor_not b hb] at ho
  have ho := Lib.hid ho
  rw [hr]; clear hr ha hb
  rename_i ho0; clear ho0
  go_enter Tryd.func25, Tryd.ntmps25
  go_wp2
  all_goals go_returns
  all_goals go_light
  all_goals refine Rets.pair ?_ (Below.refl _ _)
  all_goals unfold over
  · rw [ho.out.1 ⟨by assumption, by assumption⟩]; rfl
  all_goals
    cases h : fits (a - b) with
    | true => rw [fits_wrap h]; rfl
    | false => have := ho.out.2 h; omega

set_option maxHeartbeats 400000 in
theorem reckon_mul (a b : Int) (w : World) (ha : I64 a) (hb : I64 b) :
    Calls Tryd.prog 25 #[.string ⟨#[42]⟩, .int .i64 a, .int .i64 b] w (Rets (.tuple #[.int .i64 (reckonS [42] a b).1, .int .i64 (reckonS [42] a b).2]) w) := by
  have hr : reckonS [42] a b = over (a * b) := rfl
  have ho := Lib.hid (mul_over a b)
  have s1 := scalar_size a w ha
  have s2 := scalar_size b w hb
  have hx : a.natAbs < 18446744073709551616 := by unfold I64 at ha; omega
  have hy : b.natAbs < 18446744073709551616 := by unfold I64 at hb; omega
  have s3 := Tryd.bits_Mul64 a.natAbs b.natAbs hx hy w
  rw [hr]; clear hr ha hb hx hy
  generalize a.natAbs = x at *
  generalize b.natAbs = y at *
  generalize hp : x * y / 18446744073709551616 = hi at *
  generalize hq : x * y % 18446744073709551616 = lo at *
  clear hp hq
  go_enter Tryd.func25, Tryd.ntmps25
  go_wp2_with fail
  refine s1.mono ?_
  rintro e w' ⟨rfl, rfl⟩
  go_wp2_with fail
  refine s2.mono ?_
  rintro e w' ⟨rfl, rfl⟩
  clear s1 s2
  go_wp2_with fail
  refine s3.mono ?_
  rintro e w' ⟨rfl, rfl⟩
  clear s3
  go_wp2
  all_goals go_returns
  all_goals go_light
  all_goals refine Rets.pair ?_ (Below.refl _ _)
  all_goals unfold over
  all_goals
    have ht : (decide (a < 0) == decide (b < 0)) = decide (a < 0 ↔ b < 0) := dec_iff _ _
    try simp only [ht, decide_eq_true_eq, decide_eq_false_iff_not] at *
    have h1 := ho.out
    cases h : fits (a * b) with
    | true => first | (rw [fits_wrap h]; rfl) | (exfalso; rw [h] at h1; simp only [reduceCtorEq, iff_false] at h1; omega)
    | false => first | rfl | (exfalso; rw [h] at h1; simp only [iff_true] at h1; omega)

theorem reckonS_rem (a b : Int) : reckonS [37] a b = if b = 0 then (0, 31) else if b = -1 then (0, 0) else (a.tmod b, 0) := rfl
theorem reckonS_quo (a b : Int) : reckonS [47] a b = if b = 0 then (0, 31) else over (a.tdiv b) := rfl
theorem quo_end {a b X : Int} (hX : X = a.tdiv b) (hf : fits (a.tdiv b) = true) (h0 : ¬ b = 0) : reckonS [47] a b = (wrap64 X, 0) := by
  rw [reckonS_quo, if_neg h0, hX]
  unfold over
  rw [hf, fits_wrap hf]; rfl

set_option maxHeartbeats 400000 in
theorem reckon_rem (a b : Int) (w : World) :
    Calls Tryd.prog 25 #[.string ⟨#[37]⟩, .int .i64 a, .int .i64 b] w (Rets (.tuple #[.int .i64 (reckonS [37] a b).1, .int .i64 (reckonS [37] a b).2]) w) := by
  generalize hp : reckonS [37] a b = p
  have HP := Lib.hid hp; clear hp
  go_enter Tryd.func25, Tryd.ntmps25
  by_cases h0 : b = 0
  · subst h0
    go_wp2
    go_returns
    exact Rets.pair (by rw [← HP.out]; rfl) (Below.refl _ _)
  · have h0' : (b == 0) = false := beq_eq_false_iff_ne.2 h0
    by_cases h1 : b = -1
    · subst h1
      go_wp2
      go_returns
      exact Rets.pair (by rw [← HP.out]; rfl) (Below.refl _ _)
    · have h1' : (b == -1) = false := beq_eq_false_iff_ne.2 h1
      go_wp2
      go_returns
      exact Rets.pair (by rw [← HP.out, reckonS_rem, if_neg h0, if_neg h1]) (Below.refl _ _)

set_option maxHeartbeats 400000 in
theorem reckon_quo (a b : Int) (w : World) (ha : I64 a) :
    Calls Tryd.prog 25 #[.string ⟨#[47]⟩, .int .i64 a, .int .i64 b] w (Rets (.tuple #[.int .i64 (reckonS [47] a b).1, .int .i64 (reckonS [47] a b).2]) w) := by
  have hf := Lib.hid (tdiv_fits a b ha)
  clear ha
  generalize hp : reckonS [47] a b = p
  have HP := Lib.hid hp; clear hp
  by_cases h0 : b = 0
  · subst h0
    go_enter Tryd.func25, Tryd.ntmps25
    go_wp2
    go_returns
    exact Rets.pair (by rw [← HP.out]; rfl) (Below.refl _ _)
  · by_cases h1 : a = -9223372036854775808 ∧ b = -1
    · obtain ⟨rfl, rfl⟩ := h1
      clear h0
      go_enter Tryd.func25, Tryd.ntmps25
      go_wp2
      go_returns
      exact Rets.pair (by rw [← HP.out]; decide) (Below.refl _ _)
    · have h0' : (b == 0) = false := beq_eq_false_iff_ne.2 h0
      have H0 := Lib.hid h0
      have H1 := Lib.hid h1
      have hc : b = -1 ∨ b ≠ -1 := Decidable.em _
      rcases hc with rfl | hc
      · have h3 : (a == -9223372036854775808) = false := beq_eq_false_iff_ne.2 (fun e => h1 ⟨e, rfl⟩)
        clear h1
        go_enter Tryd.func25, Tryd.ntmps25
        go_wp2
        go_returns
        exact Rets.pair (by rw [← HP.out]; exact quo_end (by rw [Int.tdiv_neg, Int.tdiv_one]) (hf.out H1.out H0.out) H0.out) (Below.refl _ _)
      · have h3 : (b == -1) = false := beq_eq_false_iff_ne.2 hc
        clear h1 hc
        go_enter Tryd.func25, Tryd.ntmps25
        go_wp2
        all_goals go_returns
        · have ha : a = -9223372036854775808 := by assumption
          exact Rets.pair (by rw [← HP.out]; exact quo_end (by rw [ha, ← Int.neg_tdiv]) (hf.out H1.out H0.out) H0.out) (Below.refl _ _)
        · exact Rets.pair (by rw [← HP.out]; exact quo_end rfl (hf.out H1.out H0.out) H0.out) (Below.refl _ _)
end Go.Proofs.YtddnkjeogidfcaaDoor
