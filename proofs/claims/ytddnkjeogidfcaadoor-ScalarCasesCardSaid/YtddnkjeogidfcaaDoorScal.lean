/-  The program's arithmetic on plain numbers, and what the machine's bits say of signs and sizes. No program in sight. -/
import Derived.Test.YtddnkjeogidfcaaDoorGV
namespace Go.Proofs.YtddnkjeogidfcaaDoor
open Go.RowKit

def fits (n : Int) : Bool := decide (-9223372036854775808 ≤ n ∧ n ≤ 9223372036854775807)

def over (n : Int) : Int × Int := if fits n then (n, 0) else (0, 30)

/-- What the program reckons: a number, and an error's number. -/
def reckonS (op : List UInt8) (a b : Int) : Int × Int :=
  if op = [43] then over (a + b)
  else if op = [45] then over (a - b)
  else if op = [42] then over (a * b)
  else if b = 0 then (0, 31)
  else if op = [37] then (if b = -1 then (0, 0) else (a.tmod b, 0))
  else over (a.tdiv b)

theorem Rets.pair {a b : Int} {p : Int × Int} {w w' : World} (h : p = (a, b)) (hb : Below w.heap.size w w') : Rets (.tuple #[.int .i64 p.1, .int .i64 p.2]) w (.returned (.tuple #[.int .i64 a, .int .i64 b])) w' := ⟨by rw [h], hb⟩

theorem ofInt_msb (a : Int) (ha : I64 a) : (BitVec.ofInt 64 a).msb = decide (a < 0) := by
  unfold I64 at ha
  rw [BitVec.msb_eq_decide, BitVec.toNat_ofInt]
  by_cases h : a < 0
  · simp [h]; omega
  · simp [h]; omega

theorem xor_nonneg (a b : Int) (ha : I64 a) (hb : I64 b) : (0 ≤ bits BinOp.xor IntKind.i64 a b) ↔ (a < 0 ↔ b < 0) := by
  have h1 : bits BinOp.xor IntKind.i64 a b = IntKind.i64.wrap ((BitVec.ofInt 64 a ^^^ BitVec.ofInt 64 b).toNat : Int) := rfl
  have hm : (BitVec.ofInt 64 a ^^^ BitVec.ofInt 64 b).msb = (decide (a < 0) ^^ decide (b < 0)) := by
    rw [BitVec.msb_xor, ofInt_msb a ha, ofInt_msb b hb]
  rw [h1, IntKind.wrap_i64]
  rw [BitVec.msb_eq_decide] at hm
  have hlt := (BitVec.ofInt 64 a ^^^ BitVec.ofInt 64 b).isLt
  generalize (BitVec.ofInt 64 a ^^^ BitVec.ofInt 64 b).toNat = n at *
  by_cases p : a < 0 <;> by_cases q : b < 0 <;> simp [p, q] at hm ⊢ <;> omega

theorem I64.wrap64 (n : Int) : I64 (wrap64 n) := by unfold I64 RowKit.wrap64; omega

theorem xor_neg (a b : Int) (ha : I64 a) (hb : I64 b) : (bits BinOp.xor IntKind.i64 a b < 0) ↔ ¬ (a < 0 ↔ b < 0) := by
  rw [← Int.not_le, xor_nonneg a b ha hb]

theorem add_over (a b : Int) (ha : I64 a) (hb : I64 b) : ((0 ≤ bits BinOp.xor IntKind.i64 a b) ∧ bits BinOp.xor IntKind.i64 a (wrap64 (a + b)) < 0) ↔ fits (a + b) = false := by
  rw [xor_nonneg a b ha hb, xor_neg a _ ha (I64.wrap64 _)]
  unfold I64 at ha hb
  unfold fits RowKit.wrap64
  rw [decide_eq_false_iff_not]
  omega

/-- The bits of b turned: -1 - b. -/
theorem xor_not (b : Int) (hb : I64 b) : bits BinOp.xor IntKind.i64 (-1) b = -1 - b := by
  have h1 : bits BinOp.xor IntKind.i64 (-1) b = IntKind.i64.wrap ((BitVec.ofInt 64 (-1) ^^^ BitVec.ofInt 64 b).toNat : Int) := rfl
  have h2 : (BitVec.ofInt 64 (-1) ^^^ BitVec.ofInt 64 b) = ~~~ BitVec.ofInt 64 b := by
    have : (BitVec.ofInt 64 (-1)) = BitVec.allOnes 64 := by decide
    rw [this, BitVec.allOnes_xor]
  rw [h1, h2, IntKind.wrap_i64, BitVec.toNat_not, BitVec.toNat_ofInt]
  unfold I64 at hb
  omega

theorem sub_over (a b : Int) (ha : I64 a) (hb : I64 b) : ((0 ≤ bits BinOp.xor IntKind.i64 a (-1 - b)) ∧ bits BinOp.xor IntKind.i64 a (wrap64 (a - b)) < 0) ↔ fits (a - b) = false := by
  have hc : I64 (-1 - b) := by unfold I64 at *; omega
  rw [xor_nonneg a _ ha hc, xor_neg a _ ha (I64.wrap64 _)]
  unfold I64 at ha hb
  unfold fits RowKit.wrap64
  rw [decide_eq_false_iff_not]
  omega

theorem size_neg (a : Int) (ha : I64 a) (h : a < 0) : IntKind.u64.wrap (-IntKind.u64.wrap a) = (a.natAbs : Int) := by
  unfold I64 at ha
  rw [IntKind.wrap_u64, IntKind.wrap_u64]; omega
theorem size_pos (a : Int) (ha : I64 a) (h : 0 ≤ a) : IntKind.u64.wrap a = (a.natAbs : Int) := by
  unfold I64 at ha
  rw [IntKind.wrap_u64]; omega

theorem fits_wrap {n : Int} (h : fits n = true) : wrap64 n = n := by
  unfold fits at h; have := of_decide_eq_true h; unfold RowKit.wrap64; omega

/-- The product's two halves tell whether it goes. -/
theorem mul_over (a b : Int) : (¬ (a.natAbs * b.natAbs / 18446744073709551616 = 0) ∨ 9223372036854775808 < a.natAbs * b.natAbs % 18446744073709551616 ∨ (9223372036854775807 < a.natAbs * b.natAbs % 18446744073709551616 ∧ (a < 0 ↔ b < 0))) ↔ fits (a * b) = false := by
  unfold fits
  rw [decide_eq_false_iff_not, ← Int.natAbs_mul]
  have hs : (a < 0 ↔ b < 0) → 0 ≤ a * b := by
    intro h
    by_cases p : a < 0
    · exact Int.mul_nonneg_of_nonpos_of_nonpos (by omega) (by have := h.1 p; omega)
    · exact Int.mul_nonneg (by omega) (by have := mt h.2 p; omega)
  have hs2 : ¬ (a < 0 ↔ b < 0) → a * b ≤ 0 := by
    intro h
    by_cases p : a < 0
    · have q : ¬ b < 0 := fun q => h ⟨fun _ => q, fun _ => p⟩
      exact Int.mul_nonpos_of_nonpos_of_nonneg (by omega) (by omega)
    · have q : b < 0 := Decidable.byContradiction fun q => h ⟨fun x => absurd x p, fun x => absurd x q⟩
      exact Int.mul_nonpos_of_nonneg_of_nonpos (by omega) (by omega)
  generalize a * b = n at *
  by_cases h : (a < 0 ↔ b < 0)
  · have := hs h; simp only [h, and_true]; omega
  · have := hs2 h; simp only [h, and_false, or_false]; omega

theorem tdiv_fits (a b : Int) (ha : I64 a) (h : ¬ (a = -9223372036854775808 ∧ b = -1)) (hb : b ≠ 0) : fits (a.tdiv b) = true := by
  unfold I64 at ha
  unfold fits
  apply decide_eq_true
  have h1 : (a.tdiv b).natAbs ≤ a.natAbs := by rw [Int.natAbs_tdiv]; exact Nat.div_le_self _ _
  by_cases p : a = -9223372036854775808
  · have q : b ≠ -1 := fun q => h ⟨p, q⟩
    by_cases r : b = 1
    · subst r; rw [Int.tdiv_one]; omega
    · have : b.natAbs ≥ 2 := by omega
      have h3 : (a.tdiv b).natAbs ≤ a.natAbs / 2 := by rw [Int.natAbs_tdiv]; exact Nat.div_le_div_left this (by omega)
      omega
  · omega
theorem tdiv_least : fits (Int.tdiv (-9223372036854775808) (-1)) = false := by decide
end Go.Proofs.YtddnkjeogidfcaaDoor
