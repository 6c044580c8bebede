/-  The plain law under ScalarTurns: sums and products turned round; what was added, taken away; a number and its quotient. No program in sight. -/
import Derived.Test.YtddnkjeogidfcaaDoorCallFn
namespace Go.Proofs.YtddnkjeogidfcaaDoor
open Go.RowKit

theorem arith_num (op : List UInt8) (a b : Int) (h : signs.contains op = true) :
    arithS op (GV.num a) (GV.num b) = if (reckonS op a b).2 != 0 then (GV.none, (reckonS op a b).2) else (GV.num (reckonS op a b).1, 0) := by
  unfold arithS
  rw [num_ok, num_ok, h]
  rfl

theorem arith_over (op : List UInt8) (a b n : Int) (h : signs.contains op = true) (hr : reckonS op a b = over n) :
    arithS op (GV.num a) (GV.num b) = if fits n then (GV.num n, 0) else (GV.none, 30) := by
  rw [arith_num op a b h, hr]
  unfold over
  cases fits n <;> rfl

theorem arith_add (a b : Int) : arithS [43] (GV.num a) (GV.num b) = if fits (a + b) then (GV.num (a + b), 0) else (GV.none, 30) := arith_over _ _ _ _ rfl rfl
theorem arith_sub (a b : Int) : arithS [45] (GV.num a) (GV.num b) = if fits (a - b) then (GV.num (a - b), 0) else (GV.none, 30) := arith_over _ _ _ _ rfl rfl
theorem arith_mul (a b : Int) : arithS [42] (GV.num a) (GV.num b) = if fits (a * b) then (GV.num (a * b), 0) else (GV.none, 30) := arith_over _ _ _ _ rfl rfl
theorem arith_add_comm (a b : Int) : arithS [43] (GV.num a) (GV.num b) = arithS [43] (GV.num b) (GV.num a) := by rw [arith_add, arith_add, Int.add_comm]
theorem arith_mul_comm (a b : Int) : arithS [42] (GV.num a) (GV.num b) = arithS [42] (GV.num b) (GV.num a) := by rw [arith_mul, arith_mul, Int.mul_comm]
theorem arith_quo (a b : Int) (h : b ≠ 0) : arithS [47] (GV.num a) (GV.num b) = if fits (a.tdiv b) then (GV.num (a.tdiv b), 0) else (GV.none, 30) :=
  arith_over _ _ _ _ rfl (by rw [reckonS_quo, if_neg h])
theorem arith_quo0 (a : Int) : arithS [47] (GV.num a) (GV.num 0) = (GV.none, 31) := by rw [arith_num _ _ _ rfl]; rfl
theorem arith_rem0 (a : Int) : arithS [37] (GV.num a) (GV.num 0) = (GV.none, 31) := by rw [arith_num _ _ _ rfl]; rfl
theorem arith_rem (a b : Int) (h : b ≠ 0) : arithS [37] (GV.num a) (GV.num b) = (GV.num (a.tmod b), 0) := by
  rw [arith_num _ _ _ rfl, reckonS_rem, if_neg h]
  by_cases h1 : b = -1
  · rw [if_pos h1, h1, Int.tmod_neg, Int.tmod_one]; rfl
  · rw [if_neg h1]; rfl

theorem fits_I64 {n : Int} : fits n = true ↔ I64 n := by unfold fits I64; rw [decide_eq_true_eq]

/-- Where the quotient does not go, it is the least number by -1. -/
theorem quo_least {a b : Int} (ha : I64 a) (h0 : b ≠ 0) (h : fits (a.tdiv b) = false) : b = -1 := by
  by_cases h1 : a = -9223372036854775808 ∧ b = -1
  · exact h1.2
  · rw [tdiv_fits a b ha h1 h0] at h; cases h

theorem quo_back (a b : Int) (ha : I64 a) : wrap64 (wrap64 (a.tdiv b * b) + a.tmod b) = a := by
  have h1 := Int.mul_tdiv_add_tmod a b
  have h2 : a.tdiv b * b = a - a.tmod b := by rw [Int.mul_comm]; omega
  have h3 : (a.tmod b).natAbs ≤ a.natAbs := by rw [Int.natAbs_tmod]; exact Nat.mod_le _ _
  have h4 : 0 ≤ a → 0 ≤ a.tmod b := fun h => Int.tmod_nonneg b h
  have h5 : a ≤ 0 → a.tmod b ≤ 0 := fun h => by
    have := Int.tmod_nonneg b (a := -a) (by omega)
    rw [Int.neg_tmod] at this; omega
  unfold I64 at ha
  rw [h2]
  unfold RowKit.wrap64
  omega

theorem rem_sign (a b : Int) (h : a.tmod b ≠ 0) : (decide (a.tmod b < 0) == decide (a < 0)) = true := by
  have h3 : (a.tmod b).natAbs ≤ a.natAbs := by rw [Int.natAbs_tmod]; exact Nat.mod_le _ _
  have h4 : 0 ≤ a → 0 ≤ a.tmod b := fun h => Int.tmod_nonneg b h
  have h5 : a ≤ 0 → a.tmod b ≤ 0 := fun h => by
    have := Int.tmod_nonneg b (a := -a) (by omega)
    rw [Int.neg_tmod] at this; omega
  rw [dec_iff]
  apply decide_eq_true
  omega
end Go.Proofs.YtddnkjeogidfcaaDoor
