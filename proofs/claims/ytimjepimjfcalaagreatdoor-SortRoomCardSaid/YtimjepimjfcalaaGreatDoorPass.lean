/-  sort.Passes. -/
import Derived.Test.YtimjepimjfcalaaGreatDoorBase
set_option linter.all false
open Go Go.Proofs
namespace Go.Ev
/-- Divided, and rounded up. -/
def cd (a b : Int) : Int := (a + b - 1) / b

theorem cd_up {n d : Int} (hn : 0 ≤ n) (hd : 1 ≤ d) : cd n d = if n.tmod d > 0 then n.tdiv d + 1 else n.tdiv d := by
  unfold cd
  rw [Int.tdiv_eq_ediv_of_nonneg hn, Int.tmod_eq_emod_of_nonneg hn]
  have h1 := Int.mul_ediv_add_emod n d
  have h2 := Int.emod_nonneg n (show d ≠ 0 by omega)
  have h3 := Int.emod_lt_of_pos n (show 0 < d by omega)
  split
  · have : n + d - 1 = (n % d - 1) + d * (n / d + 1) := by rw [Int.mul_add]; omega
    rw [this, Int.add_mul_ediv_left _ _ (by omega), Int.ediv_eq_zero_of_lt (by omega) (by omega)]; omega
  · have : n + d - 1 = (d - 1) + d * (n / d) := by omega
    rw [this, Int.add_mul_ediv_left _ _ (by omega), Int.ediv_eq_zero_of_lt (by omega) (by omega)]; omega

theorem cd_le {n d : Int} (hn : 0 ≤ n) (hd : 1 ≤ d) : cd n d ≤ n := by
  unfold cd
  rcases Int.lt_or_le 0 n with h | h
  · have : n + d - 1 ≤ n * d := by
      have : (n - 1) * (d - 1) ≥ 0 := Int.mul_nonneg (by omega) (by omega)
      have h2 : (n - 1) * (d - 1) = n * d - n - d + 1 := by rw [Int.sub_mul, Int.mul_sub]; omega
      omega
    exact Int.le_trans (Int.ediv_le_ediv (by omega) this) (by rw [Int.mul_ediv_cancel _ (by omega)]; omega)
  · have : n = 0 := by omega
    subst this
    rw [Int.ediv_eq_zero_of_lt (by omega) (by omega)]; omega

set_option maxRecDepth 100000 in
theorem up_good (n d : Int) (hn : 0 ≤ n) (hm : n ≤ 9223372036854775807) (hd : 1 ≤ d) : Good Tryz.prog 36 [.c (.int .i64 n), .c (.int .i64 d)] [] (.c (.int .i64 (cd n d))) [] := by
  have h1 := cd_up hn hd
  have h2 := cd_le hn hd
  have h3 : 0 ≤ n.tdiv d := Int.tdiv_nonneg hn (by omega)
  have h4 : n.tdiv d ≤ n := by
    rw [Int.tdiv_eq_ediv_of_nonneg hn]; exact Int.ediv_le_self _ hn
  refine Good.of_vm TT 1000 Tryz.func36 rfl rfl ?_
  unfold Tryz.f36
  simp only [go_sem, Nat.reduceAdd, Nat.reduceSub, Nat.reduceEqDiff, reduceCtorEq, ↓reduceIte]
  refine ⟨by omega, fun h => ⟨by omega, ?_⟩, fun h => ⟨by omega, ?_⟩⟩
  · rw [if_pos h] at h1
    rw [wrap_id (a := n.tdiv d) (by omega) (by omega), wrap_id (by omega) (by omega), h1]
  · rw [if_neg h] at h1
    rw [wrap_id (by omega) (by omega), h1]

theorem cd_nonneg {n d : Int} (hn : 0 ≤ n) (hd : 1 ≤ d) : 0 ≤ cd n d := Int.ediv_nonneg (by omega) (by omega)
theorem cd_lt {n d : Int} (hn : 1 < n) (hd : 2 ≤ d) : cd n d < n := by
  unfold cd
  have : n + d - 1 < n * d := by
    have h1 : (n - 1) * (d - 1) ≥ 1 * 1 := Int.mul_le_mul (by omega) (by omega) (by omega) (by omega)
    have h2 : (n - 1) * (d - 1) = n * d - n - d + 1 := by rw [Int.sub_mul, Int.mul_sub]; omega
    omega
  exact Int.ediv_lt_of_lt_mul (by omega) this

/-- How many passes so many runs take. -/
def npf (f : Int) : Nat → Int → Int
  | 0, _ => 0
  | k + 1, l => if 1 < l then 1 + npf f k (cd l f) else 0
def np (f l : Int) : Int := npf f l.toNat l
theorem npf_more {f : Int} (hf : 2 ≤ f) : ∀ (k j : Nat) (l : Int), l.toNat ≤ k → k ≤ j → npf f k l = npf f j l
  | 0, j, l, h, _ => by
    cases j with
    | zero => rfl
    | succ j => simp only [npf]; rw [if_neg (by omega)]
  | k + 1, 0, l, h, hj => by omega
  | k + 1, j + 1, l, h, hj => by
    simp only [npf]
    split
    · rename_i h1
      have := cd_lt h1 hf
      rw [npf_more hf k j _ (by omega) (by omega)]
    · rfl
theorem np_step {f l : Int} (hf : 2 ≤ f) (hl : 1 < l) : np f l = 1 + np f (cd l f) := by
  unfold np
  have := cd_lt hl hf
  have h0 := cd_nonneg (n := l) (d := f) (by omega) (by omega)
  obtain ⟨k, hk⟩ : ∃ k, l.toNat = k + 1 := ⟨l.toNat - 1, by omega⟩
  rw [hk]
  simp only [npf]
  rw [if_pos hl, npf_more hf (cd l f).toNat k _ (by omega) (by omega)]
theorem np_stop {f l : Int} (hl : ¬ 1 < l) : np f l = 0 := by
  unfold np
  cases l.toNat with
  | zero => rfl
  | succ k => simp only [npf]; rw [if_neg hl]
theorem npf_nonneg (f : Int) : ∀ (k : Nat) (l : Int), 0 ≤ npf f k l
  | 0, _ => by simp [npf]
  | k + 1, l => by simp only [npf]; have := npf_nonneg f k (cd l f); split <;> omega
theorem np_nonneg (f l : Int) : 0 ≤ np f l := npf_nonneg f _ l
theorem np_le {f : Int} (hf : 2 ≤ f) : ∀ (k : Nat) (l : Int), l.toNat ≤ k → 0 ≤ l → np f l ≤ l
  | 0, l, h, h0 => by rw [np_stop (by omega)]; exact h0
  | k + 1, l, h, h0 => by
    rcases Int.lt_or_le 1 l with h1 | h1
    · rw [np_step hf h1]
      have h2 := cd_lt h1 hf
      have := np_le hf k (cd l f) (by omega) (cd_nonneg (by omega) (by omega))
      omega
    · rw [np_stop (by omega)]; exact h0

set_option maxRecDepth 100000 in
theorem passes_good (n b f : Int) (hn : n ≤ 9223372036854775807) : Good Tryz.prog 13 [.c (.int .i64 n), .c (.int .i64 b), .c (.int .i64 f)] [] (.tup [.c (.int .i64 (cd (max n 0) (max b 1))), .c (.int .i64 (np (max f 2) (cd (max n 0) (max b 1))))]) [] := by
  have k1 : 0 ≤ cd (max n 0) (max b 1) := cd_nonneg (by omega) (by omega)
  have k2 : cd (max n 0) (max b 1) ≤ 9223372036854775807 := Int.le_trans (cd_le (by omega) (by omega)) (by omega)
  refine Good.of_vm TT 1000 Tryz.func13 rfl rfl ?_
  unfold Tryz.f13
  simp only [go_sem, Nat.reduceAdd, Nat.reduceSub, Nat.reduceEqDiff, reduceCtorEq, ↓reduceIte]
  refine Cl.of TT 1000 (up_good _ _ (by omega) (by omega) (by omega)) ?_
  simp only [go_sem, Nat.reduceAdd, Nat.reduceSub, Nat.reduceEqDiff, reduceCtorEq, ↓reduceIte]
  generalize hr : cd (max n 0) (max b 1) = r at *
  have hf : 2 ≤ max f 2 := by omega
  generalize max f 2 = g at *
  refine Lp.inv TT 1000 12 0 (Nat.le_refl _) (fun a : Int × Int => a.1.toNat) (fun a => 0 ≤ a.1 ∧ 0 ≤ a.2 ∧ a.1 ≤ 9223372036854775807 ∧ a.2 + np g a.1 = np g r)
    (fun a => ⟨[.c (.int .i64 n), .c (.int .i64 (max b 1)), .c (.int .i64 g), .und, .und, .und, .c (.int .i64 0), .c (.int .i64 0), .c (.fn 36 []), .c (.int .i64 r), .c (.int .i64 a.2), .c (.int .i64 a.1)] ++ List.replicate 20 .dead, []⟩) (r, 0) ?_ ?_ ?_
  · simp only [go_sem, Nat.reduceAdd, Nat.reduceSub, Nat.reduceEqDiff, reduceCtorEq, ↓reduceIte]
  · exact ⟨k1, Int.le_refl _, k2, by simp⟩
  · rintro ⟨l, p⟩ ⟨i1, i2, i3, i4⟩
    have i5 := np_nonneg g l
    have i6 := np_le hf _ r (Nat.le_refl _) k1
    simp only [go_sem, Nat.reduceAdd, Nat.reduceSub, Nat.reduceEqDiff, reduceCtorEq, ↓reduceIte]
    refine ⟨fun hl => ?_, fun hl => ?_⟩
    · have i7 := cd_lt (n := l) (d := g) (by omega) hf
      have i8 := cd_nonneg (n := l) (d := g) (by simp at i1; omega) (by omega)
      simp only at i1 i2 i3 i4
      rw [np_step hf (by omega)] at i4 i5
      have i9 := np_nonneg g (cd l g)
      refine Cl.of TT 1000 (up_good _ _ (by omega) (by omega) (by omega)) ?_
      simp only [go_sem, Nat.reduceAdd, Nat.reduceSub, Nat.reduceEqDiff, reduceCtorEq, ↓reduceIte]
      exact ⟨(cd l g, p + 1), by simp only; omega, ⟨i8, by simp only; omega, by simp only; omega, by simp only; omega⟩, by rw [wrap_id (by omega) (by omega)]⟩
    · simp only at i4
      rw [np_stop (by omega)] at i4
      rw [← i4, Int.add_zero]

theorem cd_pred {n d : Int} (hn : 1 ≤ n) (hd : 1 ≤ d) : cd n d = (n - 1).tdiv d + 1 := by
  unfold cd
  rw [Int.tdiv_eq_ediv_of_nonneg (by omega), show n + d - 1 = n - 1 + d * 1 by omega, Int.add_mul_ediv_left _ _ (by omega)]

set_option maxRecDepth 100000 in
theorem rpasses_good (n b f : Int) (hn : n ≤ 9223372036854775807) : Good Tryz.prog 14 [.c (.int .i64 n), .c (.int .i64 b), .c (.int .i64 f)] [] (.tup [.c (.int .i64 (cd (max n 0) (max b 1))), .c (.int .i64 (np (max f 2) (cd (max n 0) (max b 1))))]) [] := by
  have k1 : 0 ≤ cd (max n 0) (max b 1) := cd_nonneg (by omega) (by omega)
  have k2 : cd (max n 0) (max b 1) ≤ 9223372036854775807 := Int.le_trans (cd_le (by omega) (by omega)) (by omega)
  refine Good.of_vm TT 1000 Tryz.func14 rfl rfl ?_
  unfold Tryz.f14
  simp only [go_sem, Nat.reduceAdd, Nat.reduceSub, Nat.reduceEqDiff, reduceCtorEq, ↓reduceIte]
  have hf : 2 ≤ max f 2 := by omega
  have hb : 1 ≤ max b 1 := by omega
  generalize max f 2 = g at *
  generalize max b 1 = d at *
  have e1 : n > 0 → IntKind.i64.wrap (IntKind.i64.wrap ((IntKind.i64.wrap (n - 1)).tdiv d) + 1) = cd (max n 0) d := fun h => by
    rw [wrap_id (a := n - 1) (by omega) (by omega), show max n 0 = n by omega]
    rw [show max n 0 = n by omega] at k1 k2
    have h2 : 0 ≤ (n - 1).tdiv d := Int.tdiv_nonneg (by omega) (by omega)
    have h3 := cd_pred (n := n) (by omega) hb
    rw [wrap_id (a := (n - 1).tdiv d) (by omega) (by omega), wrap_id (by omega) (by omega)]; exact h3.symm
  refine ⟨fun h => ⟨by omega, ?_⟩, fun h => ?_⟩
  · rw [e1 h]
    generalize hr : cd (max n 0) d = r at *
    refine Lp.inv TT 1000 11 0 (Nat.le_refl _) (fun a : Int × Int => a.1.toNat) (fun a => 0 ≤ a.1 ∧ 0 ≤ a.2 ∧ a.1 ≤ 9223372036854775807 ∧ a.2 + np g a.1 = np g r)
      (fun a => ⟨[.c (.int .i64 n), .c (.int .i64 d), .c (.int .i64 g), .und, .und, .und, .c (.int .i64 0), .c (.int .i64 0), .c (.int .i64 r), .c (.int .i64 a.2), .c (.int .i64 a.1)] ++ List.replicate 23 .dead, []⟩) (r, 0) ?_ ?_ ?_
    · simp only [go_sem, Nat.reduceAdd, Nat.reduceSub, Nat.reduceEqDiff, reduceCtorEq, ↓reduceIte]
    · exact ⟨by omega, Int.le_refl _, by simp only; omega, by simp⟩
    · rintro ⟨l, p⟩ ⟨i1, i2, i3, i4⟩
      have i5 := np_nonneg g l
      have i6 := np_le hf _ r (Nat.le_refl _) (by omega)
      simp only at i1 i2 i3 i4
      simp only [go_sem, Nat.reduceAdd, Nat.reduceSub, Nat.reduceEqDiff, reduceCtorEq, ↓reduceIte]
      refine ⟨fun hl => ⟨by omega, ?_⟩, fun hl => ?_⟩
      · have i7 := cd_lt (n := l) (d := g) (by omega) hf
        have i8 := cd_nonneg (n := l) (d := g) (by omega) (by omega)
        rw [np_step hf (by omega)] at i4 i5
        have i9 := np_nonneg g (cd l g)
        have j1 := cd_pred (n := l) (d := g) (by omega) (by omega)
        have j2 : 0 ≤ (l - 1).tdiv g := Int.tdiv_nonneg (by omega) (by omega)
        rw [wrap_id (a := l - 1) (by omega) (by omega), wrap_id (a := (l - 1).tdiv g) (by omega) (by omega), wrap_id (a := (l - 1).tdiv g + 1) (by omega) (by omega), wrap_id (a := p + 1) (by omega) (by omega), ← j1]
        exact ⟨(cd l g, p + 1), by simp only; omega, ⟨i8, by simp only; omega, by simp only; omega, by simp only; omega⟩, rfl⟩
      · rw [np_stop (by omega)] at i4
        rw [← i4, Int.add_zero]
  · rw [show cd (max n 0) d = 0 by rw [show max n 0 = 0 by omega]; exact Int.ediv_eq_zero_of_lt (by omega) (by omega)]
    refine Lp.inv TT 1000 11 0 (Nat.le_refl _) (fun a : Int × Int => a.1.toNat) (fun a => 0 ≤ a.1 ∧ 0 ≤ a.2 ∧ a.1 ≤ 9223372036854775807 ∧ a.2 + np g a.1 = np g 0)
      (fun a => ⟨[.c (.int .i64 n), .c (.int .i64 d), .c (.int .i64 g), .und, .und, .und, .c (.int .i64 0), .c (.int .i64 0), .c (.int .i64 0), .c (.int .i64 a.2), .c (.int .i64 a.1)] ++ List.replicate 23 .dead, []⟩) ((0 : Int), (0 : Int)) ?_ ?_ ?_
    · simp only [go_sem, Nat.reduceAdd, Nat.reduceSub, Nat.reduceEqDiff, reduceCtorEq, ↓reduceIte]
    · exact ⟨by omega, Int.le_refl _, by simp only; omega, by simp⟩
    · rintro ⟨l, p⟩ ⟨i1, i2, i3, i4⟩
      have i5 := np_nonneg g l
      have i6 := np_le hf _ 0 (Nat.le_refl _) (by omega)
      simp only at i1 i2 i3 i4
      simp only [go_sem, Nat.reduceAdd, Nat.reduceSub, Nat.reduceEqDiff, reduceCtorEq, ↓reduceIte]
      refine ⟨fun hl => ⟨by omega, ?_⟩, fun hl => ?_⟩
      · have i7 := cd_lt (n := l) (d := g) (by omega) hf
        have i8 := cd_nonneg (n := l) (d := g) (by omega) (by omega)
        rw [np_step hf (by omega)] at i4 i5
        have i9 := np_nonneg g (cd l g)
        have j1 := cd_pred (n := l) (d := g) (by omega) (by omega)
        have j2 : 0 ≤ (l - 1).tdiv g := Int.tdiv_nonneg (by omega) (by omega)
        rw [wrap_id (a := l - 1) (by omega) (by omega), wrap_id (a := (l - 1).tdiv g) (by omega) (by omega), wrap_id (a := (l - 1).tdiv g + 1) (by omega) (by omega), wrap_id (a := p + 1) (by omega) (by omega), ← j1]
        exact ⟨(cd l g, p + 1), by simp only; omega, ⟨i8, by simp only; omega, by simp only; omega, by simp only; omega⟩, rfl⟩
      · rw [np_stop (by omega)] at i4
        rw [← i4, Int.add_zero]

/-- The law: how many runs and passes. -/
theorem sortPasses_good (n b f : Int) (hn : n ≤ 9223372036854775807) (L : Good Tryz.prog 8 [] [] (.c (.bool true)) []) : Good Tryz.prog 4 [.c (.int .i64 n), .c (.int .i64 b), .c (.int .i64 f)] [] (.c (.bool true)) [] := by
  refine Good.of_vm TT 1000 Tryz.func4 rfl rfl ?_
  unfold Tryz.f4
  simp only [go_sem, Nat.reduceAdd, Nat.reduceSub, Nat.reduceEqDiff, reduceCtorEq, ↓reduceIte]
  refine Cl.of TT 1000 L ?_
  simp only [go_sem, Nat.reduceAdd, Nat.reduceSub, Nat.reduceEqDiff, reduceCtorEq, ↓reduceIte]
  refine Cl.of TT 1000 (passes_good _ _ _ hn) ?_
  simp only [go_sem, Nat.reduceAdd, Nat.reduceSub, Nat.reduceEqDiff, reduceCtorEq, ↓reduceIte]
  refine Cl.of TT 1000 (rpasses_good _ _ _ hn) ?_
  simp only [go_sem, Nat.reduceAdd, Nat.reduceSub, Nat.reduceEqDiff, reduceCtorEq, ↓reduceIte]
end Go.Ev
