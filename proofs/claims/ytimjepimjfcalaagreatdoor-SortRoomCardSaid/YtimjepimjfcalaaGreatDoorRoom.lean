/-  SortRoom: more room, or a greater fan, takes no more runs and passes. -/
import Derived.Test.YtimjepimjfcalaaGreatDoorPass
set_option linter.all false
open Go Go.Proofs
namespace Go.Ev
theorem cd_mono {a b d : Int} (hab : a ≤ b) (hd : 1 ≤ d) : cd a d ≤ cd b d := Int.ediv_le_ediv (by omega) (by omega)
theorem cd_anti {n b c : Int} (hn : 0 ≤ n) (hb : 1 ≤ b) (hbc : b ≤ c) : cd n c ≤ cd n b := by
  have h0 := cd_nonneg hn hb
  have h1 := Int.mul_ediv_add_emod (n + b - 1) b
  have h2 := Int.emod_nonneg (n + b - 1) (show b ≠ 0 by omega)
  have h3 := Int.emod_lt_of_pos (n + b - 1) (show 0 < b by omega)
  change 0 ≤ (n + b - 1) / b at h0
  show (n + c - 1) / c ≤ (n + b - 1) / b
  generalize (n + b - 1) / b = q at *
  have h4 : n ≤ b * q := by omega
  have h5 : b * q ≤ c * q := Int.mul_le_mul_of_nonneg_right hbc h0
  have h6 : n + c - 1 < c * (q + 1) := by rw [Int.mul_add]; omega
  have := Int.ediv_lt_of_lt_mul (a := n + c - 1) (b := q + 1) (c := c) (by omega) (by rw [Int.mul_comm]; exact h6)
  omega
theorem npf_mono {f g : Int} (hf : 2 ≤ f) (hfg : f ≤ g) : ∀ (k : Nat) (a b : Int), a ≤ b → 0 ≤ a → b.toNat ≤ k → npf g k a ≤ npf f k b
  | 0, a, b, _, _, _ => by simp [npf]
  | k + 1, a, b, hab, ha, hk => by
    simp only [npf]
    rcases Int.lt_or_le 1 b with h1 | h1
    · rw [if_pos h1]
      have := npf_nonneg f k (cd b f)
      split
      · rename_i h2
        have h3 := cd_lt h1 hf
        have h4 : cd a g ≤ cd b f := Int.le_trans (cd_mono hab (by omega)) (cd_anti (by omega) (by omega) hfg)
        have := npf_mono hf hfg k (cd a g) (cd b f) h4 (cd_nonneg ha (by omega)) (by omega)
        omega
      · omega
    · rw [if_neg (by omega), if_neg (by omega)]; exact Int.le_refl _
theorem np_mono {f g a b : Int} (hf : 2 ≤ f) (hfg : f ≤ g) (hab : a ≤ b) (ha : 0 ≤ a) : np g a ≤ np f b := by
  have h1 : np g a = npf g b.toNat a := npf_more (by omega) _ _ _ (Nat.le_refl _) (by omega)
  rw [h1]; exact npf_mono hf hfg _ _ _ hab ha (Nat.le_refl _)
theorem cd_self {n : Int} (hn : 0 ≤ n) : cd n (max n 1) = min n 1 := by
  unfold cd
  rcases Int.lt_or_le 0 n with h | h
  · rw [show max n 1 = n by omega, show min n 1 = 1 by omega, show n + n - 1 = (n - 1) + n * 1 by omega, Int.add_mul_ediv_left _ _ (by omega), Int.ediv_eq_zero_of_lt (by omega) (by omega)]; rfl
  · have : n = 0 := by omega
    subst this; rfl
theorem cd_room {n b : Int} (hn : 0 ≤ n) (hb : 1 ≤ b) : (cd n b - 1) * b < max n 1 := by
  have h1 := Int.mul_ediv_add_emod (n + b - 1) b
  have h2 := Int.emod_nonneg (n + b - 1) (show b ≠ 0 by omega)
  have h3 := Int.emod_lt_of_pos (n + b - 1) (show 0 < b by omega)
  show ((n + b - 1) / b - 1) * b < max n 1
  generalize (n + b - 1) / b = q at *
  rw [Int.sub_mul, Int.mul_comm q b]
  omega
set_option maxRecDepth 100000 in
/-- The law: more room, or a greater fan, takes no more; with room for all there is one run, and no pass. -/
theorem sortRoom_good (n b f m : Int) (L : Good Tryz.prog 8 [] [] (.c (.bool true)) []) : Good Tryz.prog 6 [.c (.int .i64 n), .c (.int .i64 b), .c (.int .i64 f), .c (.int .i64 m)] [] (.c (.bool true)) [] := by
  refine Good.of_vm TT 4000 Tryz.func6 rfl rfl ?_
  unfold Tryz.f6
  simp only [go_sem, Nat.reduceAdd, Nat.reduceSub, Nat.reduceEqDiff, reduceCtorEq, ↓reduceIte]
  refine Cl.of TT 4000 L ?_
  by_cases h1 : n < 0
  · simp only [go_sem, h1, Nat.reduceAdd, Nat.reduceSub, Nat.reduceEqDiff, reduceCtorEq, ↓reduceIte]
  by_cases h2 : n > 1099511627776
  · simp only [go_sem, h1, h2, Nat.reduceAdd, Nat.reduceSub, Nat.reduceEqDiff, reduceCtorEq, ↓reduceIte]
  by_cases h3 : b < 1
  · simp only [go_sem, h1, h2, h3, Nat.reduceAdd, Nat.reduceSub, Nat.reduceEqDiff, reduceCtorEq, ↓reduceIte]
  by_cases h4 : b > 1099511627776
  · simp only [go_sem, h1, h2, h3, h4, Nat.reduceAdd, Nat.reduceSub, Nat.reduceEqDiff, reduceCtorEq, ↓reduceIte]
  by_cases h5 : f < 2
  · simp only [go_sem, h1, h2, h3, h4, h5, Nat.reduceAdd, Nat.reduceSub, Nat.reduceEqDiff, reduceCtorEq, ↓reduceIte]
  by_cases h6 : f > 1099511627776
  · simp only [go_sem, h1, h2, h3, h4, h5, h6, Nat.reduceAdd, Nat.reduceSub, Nat.reduceEqDiff, reduceCtorEq, ↓reduceIte]
  by_cases h7 : m < 0
  · simp only [go_sem, h1, h2, h3, h4, h5, h6, h7, Nat.reduceAdd, Nat.reduceSub, Nat.reduceEqDiff, reduceCtorEq, ↓reduceIte]
  by_cases h8 : m > 1099511627776
  · simp only [go_sem, h1, h2, h3, h4, h5, h6, h7, h8, Nat.reduceAdd, Nat.reduceSub, Nat.reduceEqDiff, reduceCtorEq, ↓reduceIte]
  simp only [go_sem, h1, h2, h3, h4, h5, h6, h7, h8, Nat.reduceAdd, Nat.reduceSub, Nat.reduceEqDiff, reduceCtorEq, ↓reduceIte]
  refine Cl.of TT 4000 (passes_good _ _ _ (by omega)) ?_
  simp only [go_sem, h1, h2, h3, h4, h5, h6, h7, h8, Nat.reduceAdd, Nat.reduceSub, Nat.reduceEqDiff, reduceCtorEq, ↓reduceIte]
  rw [wrap_id (a := b + m) (by omega) (by omega)]
  refine Cl.of TT 4000 (passes_good _ _ _ (by omega)) ?_
  simp only [go_sem, h1, h2, h3, h4, h5, h6, h7, h8, Nat.reduceAdd, Nat.reduceSub, Nat.reduceEqDiff, reduceCtorEq, ↓reduceIte]
  rw [wrap_id (a := f + m) (by omega) (by omega)]
  refine Cl.of TT 4000 (passes_good _ _ _ (by omega)) ?_
  simp only [go_sem, h1, h2, h3, h4, h5, h6, h7, h8, Nat.reduceAdd, Nat.reduceSub, Nat.reduceEqDiff, reduceCtorEq, ↓reduceIte]
  refine Cl.of TT 4000 (passes_good _ _ _ (by omega)) ?_
  rw [show max n 0 = n by omega, show max b 1 = b by omega, show max f 2 = f by omega, show max (b + m) 1 = b + m by omega, show max (f + m) 2 = f + m by omega, show max (max n 1) 1 = max n 1 by omega, cd_self (by omega), np_stop (f := f) (l := min n 1) (by omega)]
  have g1 : cd n (b + m) ≤ cd n b := cd_anti (by omega) (by omega) (by omega)
  have g2 : np f (cd n (b + m)) ≤ np f (cd n b) := np_mono (by omega) (Int.le_refl _) g1 (cd_nonneg (by omega) (by omega))
  have g3 : np (f + m) (cd n b) ≤ np f (cd n b) := np_mono (by omega) (by omega) (Int.le_refl _) (cd_nonneg (by omega) (by omega))
  have g4 := cd_room (n := n) (b := b) (by omega) (by omega)
  have g5 : 0 ≤ cd n b := cd_nonneg (by omega) (by omega)
  have g6 : cd n b ≤ n := cd_le (by omega) (by omega)
  have g7 : -1099511627776 ≤ (cd n b - 1) * b := by
    rcases Int.lt_or_le 0 (cd n b) with h | h
    · have : 0 ≤ (cd n b - 1) * b := Int.mul_nonneg (by omega) (by omega)
      omega
    · rw [show cd n b = 0 by omega]; omega
  have g8 : IntKind.i64.wrap (cd n b - 1) = cd n b - 1 := wrap_id (by omega) (by omega)
  have g9 : IntKind.i64.wrap ((cd n b - 1) * b) = (cd n b - 1) * b := wrap_id (by omega) (by omega)
  simp only [go_sem, g1, g2, g3, g4, g8, g9, Nat.reduceAdd, Nat.reduceSub, Nat.reduceEqDiff, reduceCtorEq, ↓reduceIte]
end Go.Ev
