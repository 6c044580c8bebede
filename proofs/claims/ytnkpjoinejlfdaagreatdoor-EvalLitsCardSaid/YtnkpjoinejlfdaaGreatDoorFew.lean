/-  The reference's Few. -/
import Derived.Test.YtnkpjoinejlfdaaGreatDoorVal
set_option linter.all false
open Go Go.Proofs
namespace Go.Ev
def cntR (r : List Val) : Nat := (r.map fun v => 1 + v.s.size).sum
def cnt (l : List (List Val)) : Nat := (l.map fun r => 1 + cntR r).sum
theorem cntR_snoc (r : List Val) (v : Val) : cntR (r ++ [v]) = cntR r + (1 + v.s.size) := by simp [cntR]
theorem cnt_snoc (l : List (List Val)) (r : List Val) : cnt (l ++ [r]) = cnt l + (1 + cntR r) := by simp [cnt]
theorem cntR_take (r : List Val) (i : Nat) : cntR (r.take i) ≤ cntR r := by
  conv => rhs; rw [← List.take_append_drop i r]
  simp only [cntR, List.map_append, List.sum_append]; omega
theorem cnt_take (l : List (List Val)) (i : Nat) : cnt (l.take i) ≤ cnt l := by
  conv => rhs; rw [← List.take_append_drop i l]
  simp only [cnt, List.map_append, List.sum_append]; omega
def rowsC (l : List (List Val)) : CV := .lst 1 false (l.map fun r => [rowC r])
attribute [go_sem] rowsC

theorem Good.bound2 {P : Program} {f : FuncId} {args : List AV} {h h' : List ABlk} {r : AV} {sz : Nat} {x : Bool} {xs : List (List CV)} (hm : AV.c (.lst sz x xs) ∈ args)
    (G : (∀ e, e ∈ xs → ∀ sz' x' ys, CV.lst sz' x' ys ∈ e → ys.length ≤ 9223372036854775807) → Good P f args h r h') : Good P f args h r h' := fun w N ρ vs H hs hl hr => by
  obtain ⟨i, hi, he⟩ := List.getElem_of_mem hm
  have := hr i hi (by omega)
  rw [he] at this
  generalize vs[i] = y at this
  refine G ?_ w N ρ vs H hs hl hr
  intro e hE sz' x' ys hy
  cases this with
  | c h => cases h with
    | lst _ _ _ A c V hx hc hm hsz hcell hrep =>
      obtain ⟨a, ha, rfl⟩ := List.getElem_of_mem hE
      obtain ⟨b, hb, hbe⟩ := List.getElem_of_mem hy
      have := hrep a b ha hb
      rw [hbe] at this
      generalize V a b = z at this
      cases this with
      | lst _ _ _ A c V hx hc hm => omega

set_option maxRecDepth 100000 in
theorem ref_Few (l : List (List Val)) (most : Nat) (hm : most ≤ 100000) (hl : l.length ≤ 1099511627776) (hs : ∀ r, r ∈ l → ∀ v, v ∈ r → v.s.size ≤ 281474976710656) :
    Good Tryz.prog 26 [.c (rowsC l), cI most] [] (cB (decide (cnt l ≤ most))) [] := by
  refine Good.bound2 (xs := l.map fun r => [rowC r]) (List.mem_cons_self ..) fun hb2 => ?_
  refine Good.of_vmQ TT 8000 Tryz.func26 rfl rfl ?_
  unfold Tryz.f26
  simp only [go_sem, Option.getD_some, Nat.reduceAdd, Nat.reduceBEq, Nat.reduceBNe, Nat.reduceMul, Nat.reduceSub, Nat.reduceEqDiff, Nat.reduceLT, Nat.reduceLeDiff, Int.reduceBEq, Int.reduceBNe, Int.reduceLT, Int.reduceLE, Int.reduceGT, Int.reduceGE, Int.reduceEq, Int.reduceAdd, Int.reduceSub, Int.reduceNeg, Int.reduceToNat, String.reduceEq, UInt8.reduceToNat, reduceCtorEq, ↓reduceIte]
  refine Lp.fit TT 8000 0 (Nat.le_refl _) (fun j : Nat => l.length - j) (fun j => j ≤ l.length ∧ cnt (l.take j) ≤ most + j)
    (fun j => ⟨[.c (rowsC l), cI most, .dead, .dead, .dead, cI (cnt (l.take j)), .dead, .dead, .dead, .dead, .c (rowsC l), cI l.length, cI j] ++ List.replicate 25 .dead, []⟩) 0 ⟨Nat.zero_le _, by simp [cnt]⟩ ?_ ?_
  · simp only [go_sem, Option.getD_some, Nat.reduceAdd, Nat.reduceBEq, Nat.reduceBNe, Nat.reduceMul, Nat.reduceSub, Nat.reduceEqDiff, Nat.reduceLT, Nat.reduceLeDiff, Int.reduceBEq, Int.reduceBNe, Int.reduceLT, Int.reduceLE, Int.reduceGT, Int.reduceGE, Int.reduceEq, Int.reduceAdd, Int.reduceSub, Int.reduceNeg, Int.reduceToNat, String.reduceEq, UInt8.reduceToNat, reduceCtorEq, ↓reduceIte]
    exact .inr (Le.of_eq (by simp [cnt]))
  · rintro j ⟨i1, i2⟩
    rcases Nat.lt_or_ge j l.length with hlt | hge
    · obtain ⟨r, hr, hmem, ht, hd⟩ := getS hlt
      have hw := wrap_succ (j := j) (by omega)
      have hn1 := wrap_succ (j := cnt (l.take j)) (by omega)
      simp only [go_sem, hlt, hr, Option.getD_some, Nat.reduceAdd, Nat.reduceBEq, Nat.reduceBNe, Nat.reduceMul, Nat.reduceSub, Nat.reduceEqDiff, Nat.reduceLT, Nat.reduceLeDiff, Int.reduceBEq, Int.reduceBNe, Int.reduceLT, Int.reduceLE, Int.reduceGT, Int.reduceGE, Int.reduceEq, Int.reduceAdd, Int.reduceSub, Int.reduceNeg, Int.reduceToNat, String.reduceEq, UInt8.reduceToNat, reduceCtorEq, ↓reduceIte]
      refine Lp.fit TT 8000 0 (Nat.le_refl _) (fun i : Nat => r.length - i) (fun i => i ≤ r.length ∧ cnt (l.take j) + 1 + cntR (r.take i) ≤ most + j + 1)
        (fun i => ⟨[.c (rowsC l), cI most, .dead, .dead, .dead, cI (cnt (l.take j) + 1 + cntR (r.take i) : Nat), .dead, .dead, .dead, .dead, .c (rowsC l), cI l.length, cI j, .dead, .dead, .dead, .dead, .dead, .c (rowC r), cI r.length, cI i] ++ List.replicate 17 .dead, []⟩) 0 ⟨Nat.zero_le _, by simp [cntR]; omega⟩ ?_ ?_
      · simp only [go_sem, hn1, Option.getD_some, Nat.reduceAdd, Nat.reduceBEq, Nat.reduceBNe, Nat.reduceMul, Nat.reduceSub, Nat.reduceEqDiff, Nat.reduceLT, Nat.reduceLeDiff, Int.reduceBEq, Int.reduceBNe, Int.reduceLT, Int.reduceLE, Int.reduceGT, Int.reduceGE, Int.reduceEq, Int.reduceAdd, Int.reduceSub, Int.reduceNeg, Int.reduceToNat, String.reduceEq, UInt8.reduceToNat, reduceCtorEq, ↓reduceIte]
        exact .inr (Le.of_eq (by simp [cntR]))
      · rintro i ⟨k1, k2⟩
        rcases Nat.lt_or_ge i r.length with hlt' | hge'
        · obtain ⟨v, hv, hmv, ht', hd'⟩ := getS hlt'
          have hsz := hs r hmem v hmv
          have hrl : r.length ≤ 9223372036854775807 := by
            have := hb2 [rowC r] (List.mem_map.2 ⟨r, hmem, rfl⟩) 3 false (r.map Val.cs) (by simp [rowC])
            simpa using this
          have hw' := wrap_succ (j := i) (by omega)
          have e1 : IntKind.i64.wrap (1 + (v.s.size : Int)) = 1 + v.s.size := wrap_id (by omega) (by omega)
          have e2 : IntKind.i64.wrap (((cnt (l.take j) + 1 + cntR (r.take i) : Nat) : Int) + (1 + (v.s.size : Int))) = ((cnt (l.take j) + 1 + cntR (r.take (i + 1)) : Nat) : Int) := by
            rw [ht', cntR_snoc, wrap_id (by omega) (by omega)]; omega
          simp only [go_sem, hlt', hv, e1, e2, hw', Option.getD_some, Nat.reduceAdd, Nat.reduceBEq, Nat.reduceBNe, Nat.reduceMul, Nat.reduceSub, Nat.reduceEqDiff, Nat.reduceLT, Nat.reduceLeDiff, Int.reduceBEq, Int.reduceBNe, Int.reduceLT, Int.reduceLE, Int.reduceGT, Int.reduceGE, Int.reduceEq, Int.reduceAdd, Int.reduceSub, Int.reduceNeg, Int.reduceToNat, String.reduceEq, UInt8.reduceToNat, reduceCtorEq, ↓reduceIte]
          by_cases hgt : most < cnt (l.take j) + 1 + cntR (r.take (i + 1))
          · simp only [go_sem, gt_iff_lt, Int.ofNat_lt, hgt, Option.getD_some, Nat.reduceAdd, Nat.reduceBEq, Nat.reduceBNe, Nat.reduceMul, Nat.reduceSub, Nat.reduceEqDiff, Nat.reduceLT, Nat.reduceLeDiff, Int.reduceBEq, Int.reduceBNe, Int.reduceLT, Int.reduceLE, Int.reduceGT, Int.reduceGE, Int.reduceEq, Int.reduceAdd, Int.reduceSub, Int.reduceNeg, Int.reduceToNat, String.reduceEq, UInt8.reduceToNat, reduceCtorEq, ↓reduceIte]
            refine Le.of_eq (congrArg cB ?_)
            have h1 := cnt_take l (j + 1)
            have h2 := cntR_take r (i + 1)
            rw [ht, cnt_snoc] at h1
            exact (decide_eq_false (by omega)).symm
          · simp only [go_sem, gt_iff_lt, Int.ofNat_lt, hgt, hw', Option.getD_some, Nat.reduceAdd, Nat.reduceBEq, Nat.reduceBNe, Nat.reduceMul, Nat.reduceSub, Nat.reduceEqDiff, Nat.reduceLT, Nat.reduceLeDiff, Int.reduceBEq, Int.reduceBNe, Int.reduceLT, Int.reduceLE, Int.reduceGT, Int.reduceGE, Int.reduceEq, Int.reduceAdd, Int.reduceSub, Int.reduceNeg, Int.reduceToNat, String.reduceEq, UInt8.reduceToNat, reduceCtorEq, ↓reduceIte]
            exact ⟨i + 1, by omega, ⟨by omega, by omega⟩, Fit1.of_eq rfl, Fit1.of_eq rfl⟩
        · have : i = r.length := by omega
          subst this
          simp only [go_sem, Nat.lt_irrefl, hw, Option.getD_some, Nat.reduceAdd, Nat.reduceBEq, Nat.reduceBNe, Nat.reduceMul, Nat.reduceSub, Nat.reduceEqDiff, Nat.reduceLT, Nat.reduceLeDiff, Int.reduceBEq, Int.reduceBNe, Int.reduceLT, Int.reduceLE, Int.reduceGT, Int.reduceGE, Int.reduceEq, Int.reduceAdd, Int.reduceSub, Int.reduceNeg, Int.reduceToNat, String.reduceEq, UInt8.reduceToNat, reduceCtorEq, ↓reduceIte]
          rw [List.take_length] at k2 ⊢
          refine ⟨j + 1, by omega, ⟨by omega, by rw [ht, cnt_snoc]; omega⟩, Fit1.of_eq (by rw [ht, cnt_snoc, Nat.add_assoc]), Fit1.of_eq rfl⟩
    · have : j = l.length := by omega
      subst this
      simp only [go_sem, Nat.lt_irrefl, Option.getD_some, Nat.reduceAdd, Nat.reduceBEq, Nat.reduceBNe, Nat.reduceMul, Nat.reduceSub, Nat.reduceEqDiff, Nat.reduceLT, Nat.reduceLeDiff, Int.reduceBEq, Int.reduceBNe, Int.reduceLT, Int.reduceLE, Int.reduceGT, Int.reduceGE, Int.reduceEq, Int.reduceAdd, Int.reduceSub, Int.reduceNeg, Int.reduceToNat, String.reduceEq, UInt8.reduceToNat, reduceCtorEq, ↓reduceIte]
      refine Le.of_eq (congrArg cB ?_)
      rw [List.take_length]
end Go.Ev
