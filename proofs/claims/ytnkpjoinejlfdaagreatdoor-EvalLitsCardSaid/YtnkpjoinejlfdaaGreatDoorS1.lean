/-  cmp.Compare, strings.Compare, cmp.Or, value.Compare, value.Same; slices.IndexFunc; scalar.check, null, num. -/
import Derived.Test.YtnkpjoinejlfdaaGreatDoorVal
set_option linter.all false
open Go Go.Proofs
namespace Go.Ev

/-! # bytes compared -/
def cmpL : List UInt8 → List UInt8 → Int
  | [], [] => 0
  | [], _ :: _ => -1
  | _ :: _, [] => 1
  | a :: x, b :: y => if a < b then -1 else if a == b then cmpL x y else 1
theorem cmpL_less : ∀ x y : List UInt8, cmpL x y = if Op.bytesLess x y then -1 else if x == y then 0 else 1
  | [], [] => rfl
  | [], _ :: _ => rfl
  | _ :: _, [] => rfl
  | a :: x, b :: y => by
    simp only [cmpL, Op.bytesLess, cmpL_less x y]
    by_cases h1 : a < b
    · simp [h1]
    · by_cases h2 : a = b
      · subst h2; simp [h1]
      · simp [h1, h2]
def cmpF (x y : List UInt8) : Int := match (List.range (min x.length y.length)).find? fun i => x.getD i 0 != y.getD i 0 with
  | some i => if x.getD i 0 < y.getD i 0 then -1 else 1
  | none => if x.length < y.length then -1 else if x.length > y.length then 1 else 0
theorem cmpF_eq : ∀ x y : List UInt8, cmpF x y = cmpL x y
  | [], [] => rfl
  | [], b :: y => by simp [cmpF, cmpL]
  | a :: x, [] => by simp [cmpF, cmpL]
  | a :: x, b :: y => by
    have ih := cmpF_eq x y
    unfold cmpF at ih ⊢
    rw [cmpL, ← ih]
    simp only [List.length_cons, Nat.succ_min_succ, List.range_succ_eq_map, List.find?_cons, List.getD_cons_zero, List.find?_map]
    by_cases h : a = b
    · subst h
      simp only [bne_self_eq_false, UInt8.lt_irrefl, if_false, beq_self_eq_true, if_true]
      have e : ((fun i => (a :: x).getD i 0 != (a :: y).getD i 0) ∘ Nat.succ) = fun i => x.getD i 0 != y.getD i 0 := by funext i; simp
      rw [e]
      cases (List.range (min x.length y.length)).find? fun i => x.getD i 0 != y.getD i 0 with
      | none => simp
      | some i => simp
    · have h' : (a != b) = true := bne_iff_ne.2 h
      simp [h', h]
theorem ba_get (a : ByteArray) (i : Nat) : a[i]! = a.data.toList.getD i 0 := by
  rcases a with ⟨⟨l⟩⟩
  show (ByteArray.mk ⟨l⟩)[i]! = l.getD i 0
  by_cases h : i < l.length
  · rw [getElem!_pos (ByteArray.mk ⟨l⟩) i h]
    simp [List.getD, List.getElem?_eq_getElem h]
    rfl
  · rw [getElem!_neg (ByteArray.mk ⟨l⟩) i h]
    simp [List.getD, List.getElem?_eq_none (Nat.le_of_not_lt h)]
    rfl
theorem cmp_str (a b : ByteArray) : Extern.BytealgCompare.cmp a b = if Op.bytesLess a.toList b.toList then -1 else if a.toList == b.toList then 0 else 1 := by
  rw [← cmpL_less, ← cmpF_eq, Go.ByteArray.toList_eq, Go.ByteArray.toList_eq]
  unfold Extern.BytealgCompare.cmp cmpF
  simp only [ba_get]
  rfl

theorem cmpstring_good (a b : ByteArray) (h : List ABlk) : Good Tryz.prog 181 [cS a, cS b] h (cI (Extern.BytealgCompare.cmp a b)) h :=
  Good.ext Tryz.func181 rfl rfl (by rfl) (by rfl) rfl fun w N ρ vs hl hr => compare_run _ _ _ w N ρ vs hl hr

def strC (a b : ByteArray) : Int := if Op.bytesLess a.toList b.toList then -1 else if a.toList == b.toList then 0 else 1
set_option maxRecDepth 100000 in
theorem CompareString_good (a b : ByteArray) : Good Tryz.prog 162 [cS a, cS b] [] (cI (strC a b)) [] := by
  refine Good.of_vmQ TT 4000 Tryz.func162 rfl rfl ?_
  unfold Tryz.f162
  simp only [go_sem, Option.getD_some, Nat.reduceAdd, Nat.reduceBEq, Nat.reduceBNe, Nat.reduceMul, Nat.reduceSub, Nat.reduceEqDiff, Nat.reduceLT, Nat.reduceLeDiff, Int.reduceBEq, Int.reduceBNe, Int.reduceLT, Int.reduceLE, Int.reduceGT, Int.reduceGE, Int.reduceEq, Int.reduceAdd, Int.reduceSub, Int.reduceNeg, Int.reduceToNat, String.reduceEq, UInt8.reduceToNat, reduceCtorEq, ↓reduceIte]
  refine Cl.of TT 4000 (cmpstring_good a b []) ?_
  simp only [go_sem, Option.getD_some, Nat.reduceAdd, Nat.reduceBEq, Nat.reduceBNe, Nat.reduceMul, Nat.reduceSub, Nat.reduceEqDiff, Nat.reduceLT, Nat.reduceLeDiff, Int.reduceBEq, Int.reduceBNe, Int.reduceLT, Int.reduceLE, Int.reduceGT, Int.reduceGE, Int.reduceEq, Int.reduceAdd, Int.reduceSub, Int.reduceNeg, Int.reduceToNat, String.reduceEq, UInt8.reduceToNat, reduceCtorEq, ↓reduceIte]
  exact Le.of_eq (congrArg cI (cmp_str a b))
set_option maxRecDepth 100000 in
theorem stringsCompare (a b : ByteArray) : Good Tryz.prog 123 [cS a, cS b] [] (cI (strC a b)) [] := by
  refine Good.of_vmQ TT 4000 Tryz.func123 rfl rfl ?_
  unfold Tryz.f123
  simp only [go_sem, Option.getD_some, Nat.reduceAdd, Nat.reduceBEq, Nat.reduceBNe, Nat.reduceMul, Nat.reduceSub, Nat.reduceEqDiff, Nat.reduceLT, Nat.reduceLeDiff, Int.reduceBEq, Int.reduceBNe, Int.reduceLT, Int.reduceLE, Int.reduceGT, Int.reduceGE, Int.reduceEq, Int.reduceAdd, Int.reduceSub, Int.reduceNeg, Int.reduceToNat, String.reduceEq, UInt8.reduceToNat, reduceCtorEq, ↓reduceIte]
  (refine Cl.pure TT 4000 (CompareString_good a b) rfl rfl ?_; simp only [go_sem, Option.getD_some, Nat.reduceAdd, Nat.reduceBEq, Nat.reduceBNe, Nat.reduceMul, Nat.reduceSub, Nat.reduceEqDiff, Nat.reduceLT, Nat.reduceLeDiff, Int.reduceBEq, Int.reduceBNe, Int.reduceLT, Int.reduceLE, Int.reduceGT, Int.reduceGE, Int.reduceEq, Int.reduceAdd, Int.reduceSub, Int.reduceNeg, Int.reduceToNat, String.reduceEq, UInt8.reduceToNat, reduceCtorEq, ↓reduceIte])

/-! # numbers compared -/
def cmpI (a b : Int) : Int := if a < b then -1 else if b < a then 1 else 0
set_option maxRecDepth 100000 in
theorem isNaN_int (n : Int) : Good Tryz.prog 161 [cI n] [] (cB false) [] := by
  refine Good.of_vmQ TT 4000 Tryz.func161 rfl rfl ?_
  unfold Tryz.f161
  simp only [go_sem, bne_self_eq_false, Option.getD_some, Nat.reduceAdd, Nat.reduceBEq, Nat.reduceBNe, Nat.reduceMul, Nat.reduceSub, Nat.reduceEqDiff, Nat.reduceLT, Nat.reduceLeDiff, Int.reduceBEq, Int.reduceBNe, Int.reduceLT, Int.reduceLE, Int.reduceGT, Int.reduceGE, Int.reduceEq, Int.reduceAdd, Int.reduceSub, Int.reduceNeg, Int.reduceToNat, String.reduceEq, UInt8.reduceToNat, reduceCtorEq, ↓reduceIte]
set_option maxRecDepth 100000 in
theorem isNaN_int64 (n : Int) : Good Tryz.prog 146 [cI n] [] (cB false) [] := by
  refine Good.of_vmQ TT 4000 Tryz.func146 rfl rfl ?_
  unfold Tryz.f146
  simp only [go_sem, bne_self_eq_false, Option.getD_some, Nat.reduceAdd, Nat.reduceBEq, Nat.reduceBNe, Nat.reduceMul, Nat.reduceSub, Nat.reduceEqDiff, Nat.reduceLT, Nat.reduceLeDiff, Int.reduceBEq, Int.reduceBNe, Int.reduceLT, Int.reduceLE, Int.reduceGT, Int.reduceGE, Int.reduceEq, Int.reduceAdd, Int.reduceSub, Int.reduceNeg, Int.reduceToNat, String.reduceEq, UInt8.reduceToNat, reduceCtorEq, ↓reduceIte]
set_option maxRecDepth 100000 in
theorem cmpCompare_int (a b : Int) : Good Tryz.prog 122 [cI a, cI b] [] (cI (cmpI a b)) [] := by
  refine Good.of_vmQ TT 4000 Tryz.func122 rfl rfl ?_
  unfold Tryz.f122
  simp only [go_sem, Option.getD_some, Nat.reduceAdd, Nat.reduceBEq, Nat.reduceBNe, Nat.reduceMul, Nat.reduceSub, Nat.reduceEqDiff, Nat.reduceLT, Nat.reduceLeDiff, Int.reduceBEq, Int.reduceBNe, Int.reduceLT, Int.reduceLE, Int.reduceGT, Int.reduceGE, Int.reduceEq, Int.reduceAdd, Int.reduceSub, Int.reduceNeg, Int.reduceToNat, String.reduceEq, UInt8.reduceToNat, reduceCtorEq, ↓reduceIte]
  repeat' first | (refine vm_sym (by simp only [go_sem]) ?_ ?_ <;> intro hg <;> simp only [go_sem, hg, Option.getD_some, Nat.reduceAdd, Nat.reduceBEq, Nat.reduceBNe, Nat.reduceMul, Nat.reduceSub, Nat.reduceEqDiff, Nat.reduceLT, Nat.reduceLeDiff, Int.reduceBEq, Int.reduceBNe, Int.reduceLT, Int.reduceLE, Int.reduceGT, Int.reduceGE, Int.reduceEq, Int.reduceAdd, Int.reduceSub, Int.reduceNeg, Int.reduceToNat, String.reduceEq, UInt8.reduceToNat, reduceCtorEq, ↓reduceIte]) | (refine vm_br ?_ ?_ <;> intro hg <;> simp only [go_sem, hg, Option.getD_some, Nat.reduceAdd, Nat.reduceBEq, Nat.reduceBNe, Nat.reduceMul, Nat.reduceSub, Nat.reduceEqDiff, Nat.reduceLT, Nat.reduceLeDiff, Int.reduceBEq, Int.reduceBNe, Int.reduceLT, Int.reduceLE, Int.reduceGT, Int.reduceGE, Int.reduceEq, Int.reduceAdd, Int.reduceSub, Int.reduceNeg, Int.reduceToNat, String.reduceEq, UInt8.reduceToNat, reduceCtorEq, ↓reduceIte]) | (refine Cl.pure TT 4000 (isNaN_int a) rfl rfl ?_; simp only [go_sem, Option.getD_some, Nat.reduceAdd, Nat.reduceBEq, Nat.reduceBNe, Nat.reduceMul, Nat.reduceSub, Nat.reduceEqDiff, Nat.reduceLT, Nat.reduceLeDiff, Int.reduceBEq, Int.reduceBNe, Int.reduceLT, Int.reduceLE, Int.reduceGT, Int.reduceGE, Int.reduceEq, Int.reduceAdd, Int.reduceSub, Int.reduceNeg, Int.reduceToNat, String.reduceEq, UInt8.reduceToNat, reduceCtorEq, ↓reduceIte]) | (refine Cl.pure TT 4000 (isNaN_int b) rfl rfl ?_; simp only [go_sem, Option.getD_some, Nat.reduceAdd, Nat.reduceBEq, Nat.reduceBNe, Nat.reduceMul, Nat.reduceSub, Nat.reduceEqDiff, Nat.reduceLT, Nat.reduceLeDiff, Int.reduceBEq, Int.reduceBNe, Int.reduceLT, Int.reduceLE, Int.reduceGT, Int.reduceGE, Int.reduceEq, Int.reduceAdd, Int.reduceSub, Int.reduceNeg, Int.reduceToNat, String.reduceEq, UInt8.reduceToNat, reduceCtorEq, ↓reduceIte])
  all_goals refine Le.of_eq (congrArg cI ?_)
  all_goals simp only [cmpI, decide_eq_true_eq, decide_eq_false_iff_not] at *
  all_goals (repeat' split) <;> omega
set_option maxRecDepth 100000 in
theorem cmpCompare_int64 (a b : Int) : Good Tryz.prog 109 [cI a, cI b] [] (cI (cmpI a b)) [] := by
  refine Good.of_vmQ TT 4000 Tryz.func109 rfl rfl ?_
  unfold Tryz.f109
  simp only [go_sem, Option.getD_some, Nat.reduceAdd, Nat.reduceBEq, Nat.reduceBNe, Nat.reduceMul, Nat.reduceSub, Nat.reduceEqDiff, Nat.reduceLT, Nat.reduceLeDiff, Int.reduceBEq, Int.reduceBNe, Int.reduceLT, Int.reduceLE, Int.reduceGT, Int.reduceGE, Int.reduceEq, Int.reduceAdd, Int.reduceSub, Int.reduceNeg, Int.reduceToNat, String.reduceEq, UInt8.reduceToNat, reduceCtorEq, ↓reduceIte]
  repeat' first | (refine vm_sym (by simp only [go_sem]) ?_ ?_ <;> intro hg <;> simp only [go_sem, hg, Option.getD_some, Nat.reduceAdd, Nat.reduceBEq, Nat.reduceBNe, Nat.reduceMul, Nat.reduceSub, Nat.reduceEqDiff, Nat.reduceLT, Nat.reduceLeDiff, Int.reduceBEq, Int.reduceBNe, Int.reduceLT, Int.reduceLE, Int.reduceGT, Int.reduceGE, Int.reduceEq, Int.reduceAdd, Int.reduceSub, Int.reduceNeg, Int.reduceToNat, String.reduceEq, UInt8.reduceToNat, reduceCtorEq, ↓reduceIte]) | (refine vm_br ?_ ?_ <;> intro hg <;> simp only [go_sem, hg, Option.getD_some, Nat.reduceAdd, Nat.reduceBEq, Nat.reduceBNe, Nat.reduceMul, Nat.reduceSub, Nat.reduceEqDiff, Nat.reduceLT, Nat.reduceLeDiff, Int.reduceBEq, Int.reduceBNe, Int.reduceLT, Int.reduceLE, Int.reduceGT, Int.reduceGE, Int.reduceEq, Int.reduceAdd, Int.reduceSub, Int.reduceNeg, Int.reduceToNat, String.reduceEq, UInt8.reduceToNat, reduceCtorEq, ↓reduceIte]) | (refine Cl.pure TT 4000 (isNaN_int64 a) rfl rfl ?_; simp only [go_sem, Option.getD_some, Nat.reduceAdd, Nat.reduceBEq, Nat.reduceBNe, Nat.reduceMul, Nat.reduceSub, Nat.reduceEqDiff, Nat.reduceLT, Nat.reduceLeDiff, Int.reduceBEq, Int.reduceBNe, Int.reduceLT, Int.reduceLE, Int.reduceGT, Int.reduceGE, Int.reduceEq, Int.reduceAdd, Int.reduceSub, Int.reduceNeg, Int.reduceToNat, String.reduceEq, UInt8.reduceToNat, reduceCtorEq, ↓reduceIte]) | (refine Cl.pure TT 4000 (isNaN_int64 b) rfl rfl ?_; simp only [go_sem, Option.getD_some, Nat.reduceAdd, Nat.reduceBEq, Nat.reduceBNe, Nat.reduceMul, Nat.reduceSub, Nat.reduceEqDiff, Nat.reduceLT, Nat.reduceLeDiff, Int.reduceBEq, Int.reduceBNe, Int.reduceLT, Int.reduceLE, Int.reduceGT, Int.reduceGE, Int.reduceEq, Int.reduceAdd, Int.reduceSub, Int.reduceNeg, Int.reduceToNat, String.reduceEq, UInt8.reduceToNat, reduceCtorEq, ↓reduceIte])
  all_goals refine Le.of_eq (congrArg cI ?_)
  all_goals simp only [cmpI, decide_eq_true_eq, decide_eq_false_iff_not] at *
  all_goals (repeat' split) <;> omega

def orS : List Int → Int
  | [] => 0
  | n :: l => if n ≠ 0 then n else orS l
def intC (n : Int) : List CV := [.int .i64 n]
attribute [go_sem] intC
set_option maxRecDepth 100000 in
theorem cmpOr_int (l : List Int) : Good Tryz.prog 121 [.c (.lst 1 false (l.map intC))] [] (cI (orS l)) [] := by
  refine Good.bound (xs := l.map intC) (List.mem_cons_self ..) fun hl => ?_
  rw [List.length_map] at hl
  refine Good.of_vmQ TT 4000 Tryz.func121 rfl rfl ?_
  unfold Tryz.f121
  simp only [go_sem, Option.getD_some, Nat.reduceAdd, Nat.reduceBEq, Nat.reduceBNe, Nat.reduceMul, Nat.reduceSub, Nat.reduceEqDiff, Nat.reduceLT, Nat.reduceLeDiff, Int.reduceBEq, Int.reduceBNe, Int.reduceLT, Int.reduceLE, Int.reduceGT, Int.reduceGE, Int.reduceEq, Int.reduceAdd, Int.reduceSub, Int.reduceNeg, Int.reduceToNat, String.reduceEq, UInt8.reduceToNat, reduceCtorEq, ↓reduceIte]
  refine Lp.fit TT 4000 0 (Nat.le_refl _) (fun j : Nat => l.length - j) (fun j => j ≤ l.length ∧ orS l = orS (l.drop j))
    (fun j => ⟨[.c (.lst 1 false (l.map intC)), .und, cI 0, cI 0, .und, .dead, .c (.lst 1 false (l.map intC)), cI l.length, cI j] ++ List.replicate 9 .dead, []⟩) 0 ⟨Nat.zero_le _, by simp⟩ ?_ ?_
  · simp only [go_sem, Option.getD_some, Nat.reduceAdd, Nat.reduceBEq, Nat.reduceBNe, Nat.reduceMul, Nat.reduceSub, Nat.reduceEqDiff, Nat.reduceLT, Nat.reduceLeDiff, Int.reduceBEq, Int.reduceBNe, Int.reduceLT, Int.reduceLE, Int.reduceGT, Int.reduceGE, Int.reduceEq, Int.reduceAdd, Int.reduceSub, Int.reduceNeg, Int.reduceToNat, String.reduceEq, UInt8.reduceToNat, reduceCtorEq, ↓reduceIte]
  · rintro j ⟨i1, i2⟩
    rcases Nat.lt_or_ge j l.length with hlt | hge
    · obtain ⟨x, hx, hm, ht, hd⟩ := getS hlt
      have hw := wrap_succ (j := j) (by omega)
      rw [hd] at i2
      simp only [go_sem, hlt, hx, Option.getD_some, Nat.reduceAdd, Nat.reduceBEq, Nat.reduceBNe, Nat.reduceMul, Nat.reduceSub, Nat.reduceEqDiff, Nat.reduceLT, Nat.reduceLeDiff, Int.reduceBEq, Int.reduceBNe, Int.reduceLT, Int.reduceLE, Int.reduceGT, Int.reduceGE, Int.reduceEq, Int.reduceAdd, Int.reduceSub, Int.reduceNeg, Int.reduceToNat, String.reduceEq, UInt8.reduceToNat, reduceCtorEq, ↓reduceIte]
      repeat' first | (refine vm_sym (by simp only [go_sem]) ?_ ?_ <;> intro hg <;> simp only [go_sem, hg, hw, Option.getD_some, Nat.reduceAdd, Nat.reduceBEq, Nat.reduceBNe, Nat.reduceMul, Nat.reduceSub, Nat.reduceEqDiff, Nat.reduceLT, Nat.reduceLeDiff, Int.reduceBEq, Int.reduceBNe, Int.reduceLT, Int.reduceLE, Int.reduceGT, Int.reduceGE, Int.reduceEq, Int.reduceAdd, Int.reduceSub, Int.reduceNeg, Int.reduceToNat, String.reduceEq, UInt8.reduceToNat, reduceCtorEq, ↓reduceIte]) | (refine vm_br ?_ ?_ <;> intro hg <;> simp only [go_sem, hg, hw, Option.getD_some, Nat.reduceAdd, Nat.reduceBEq, Nat.reduceBNe, Nat.reduceMul, Nat.reduceSub, Nat.reduceEqDiff, Nat.reduceLT, Nat.reduceLeDiff, Int.reduceBEq, Int.reduceBNe, Int.reduceLT, Int.reduceLE, Int.reduceGT, Int.reduceGE, Int.reduceEq, Int.reduceAdd, Int.reduceSub, Int.reduceNeg, Int.reduceToNat, String.reduceEq, UInt8.reduceToNat, reduceCtorEq, ↓reduceIte])
      · simp only [bne_iff_ne, ne_eq] at hg
        exact Le.of_eq (congrArg cI (by rw [i2, orS, if_pos hg]))
      · have hg' : x = 0 := by simpa using hg
        exact ⟨j + 1, by omega, ⟨by omega, by rw [i2, orS, if_neg (by simp [hg'])]⟩, Fit1.of_eq rfl⟩
    · simp only [go_sem, Nat.not_lt.2 hge, Option.getD_some, Nat.reduceAdd, Nat.reduceBEq, Nat.reduceBNe, Nat.reduceMul, Nat.reduceSub, Nat.reduceEqDiff, Nat.reduceLT, Nat.reduceLeDiff, Int.reduceBEq, Int.reduceBNe, Int.reduceLT, Int.reduceLE, Int.reduceGT, Int.reduceGE, Int.reduceEq, Int.reduceAdd, Int.reduceSub, Int.reduceNeg, Int.reduceToNat, String.reduceEq, UInt8.reduceToNat, reduceCtorEq, ↓reduceIte]
      exact Le.of_eq (congrArg cI (by rw [i2, List.drop_of_length_le hge]; rfl))

/-! # values compared -/
theorem cmp_or (a b : Val) : orS [cmpI a.k b.k, cmpI a.i b.i, strC a.s b.s] = a.cmp b := by
  unfold Val.cmp Val.lt Val.same cmpI strC orS orS orS orS
  by_cases h1 : a.k < b.k
  · simp [h1]
  · by_cases h2 : b.k < a.k
    · have : (a.k == b.k) = false := beq_eq_false_iff_ne.2 (by omega)
      simp [h1, h2, this]
    · have e1 : (a.k == b.k) = true := beq_iff_eq.2 (by omega)
      by_cases h3 : a.i < b.i
      · simp [h1, h2, e1, h3]
      · by_cases h4 : b.i < a.i
        · have : (a.i == b.i) = false := beq_eq_false_iff_ne.2 (by omega)
          simp [h1, h2, e1, h3, h4, this]
        · have e2 : (a.i == b.i) = true := beq_iff_eq.2 (by omega)
          simp only [h1, h2, h3, h4, e1, e2, if_false, decide_false, Bool.true_and, Bool.false_or, ne_eq, not_true_eq_false]
          by_cases h5 : Op.bytesLess a.s.toList b.s.toList = true
          · simp [h5]
          · by_cases h6 : (a.s.toList == b.s.toList) = true
            · simp [h5, h6]
            · simp [h5, h6]

set_option maxRecDepth 100000 in
theorem value_Compare (a b : Val) : Good Tryz.prog 92 [a.av, b.av] [] (cI (a.cmp b)) [] := by
  refine Good.of_vmQ TT 4000 Tryz.func92 rfl rfl ?_
  unfold Tryz.f92
  simp only [go_sem, Option.getD_some, Nat.reduceAdd, Nat.reduceBEq, Nat.reduceBNe, Nat.reduceMul, Nat.reduceSub, Nat.reduceEqDiff, Nat.reduceLT, Nat.reduceLeDiff, Int.reduceBEq, Int.reduceBNe, Int.reduceLT, Int.reduceLE, Int.reduceGT, Int.reduceGE, Int.reduceEq, Int.reduceAdd, Int.reduceSub, Int.reduceNeg, Int.reduceToNat, String.reduceEq, UInt8.reduceToNat, reduceCtorEq, ↓reduceIte]
  refine Dr.of TT (by kernel_rfl) [(122, [cI a.k, cI b.k], cI (cmpI a.k b.k)), (109, [cI a.i, cI b.i], cI (cmpI a.i b.i)), (123, [cS a.s, cS b.s], cI (strC a.s b.s)), (121, [.c (.lst 1 false ([cmpI a.k b.k, cmpI a.i b.i, strC a.s b.s].map intC))], cI (orS [cmpI a.k b.k, cmpI a.i b.i, strC a.s b.s]))]
    ⟨⟨cmpCompare_int _ _, rfl⟩, ⟨cmpCompare_int64 _ _, rfl⟩, ⟨stringsCompare _ _, rfl⟩, ⟨cmpOr_int _, rfl⟩, trivial⟩ ?_
  simp only [go_sem, Option.getD_some, Nat.reduceAdd, Nat.reduceBEq, Nat.reduceBNe, Nat.reduceMul, Nat.reduceSub, Nat.reduceEqDiff, Nat.reduceLT, Nat.reduceLeDiff, Int.reduceBEq, Int.reduceBNe, Int.reduceLT, Int.reduceLE, Int.reduceGT, Int.reduceGE, Int.reduceEq, Int.reduceAdd, Int.reduceSub, Int.reduceNeg, Int.reduceToNat, String.reduceEq, UInt8.reduceToNat, reduceCtorEq, ↓reduceIte]
  refine DEnd.of TT 4000 (by kernel_rfl) ?_
  simp only [go_sem, Option.getD_some, Nat.reduceAdd, Nat.reduceBEq, Nat.reduceBNe, Nat.reduceMul, Nat.reduceSub, Nat.reduceEqDiff, Nat.reduceLT, Nat.reduceLeDiff, Int.reduceBEq, Int.reduceBNe, Int.reduceLT, Int.reduceLE, Int.reduceGT, Int.reduceGE, Int.reduceEq, Int.reduceAdd, Int.reduceSub, Int.reduceNeg, Int.reduceToNat, String.reduceEq, UInt8.reduceToNat, reduceCtorEq, ↓reduceIte]
  exact Le.of_eq (congrArg cI (cmp_or a b))

set_option maxRecDepth 100000 in
theorem value_Same (a b : Val) : Good Tryz.prog 45 [a.av, b.av] [] (cB (a.same b)) [] := by
  refine Good.of_vmQ TT 4000 Tryz.func45 rfl rfl ?_
  unfold Tryz.f45
  simp only [go_sem, Option.getD_some, Nat.reduceAdd, Nat.reduceBEq, Nat.reduceBNe, Nat.reduceMul, Nat.reduceSub, Nat.reduceEqDiff, Nat.reduceLT, Nat.reduceLeDiff, Int.reduceBEq, Int.reduceBNe, Int.reduceLT, Int.reduceLE, Int.reduceGT, Int.reduceGE, Int.reduceEq, Int.reduceAdd, Int.reduceSub, Int.reduceNeg, Int.reduceToNat, String.reduceEq, UInt8.reduceToNat, reduceCtorEq, ↓reduceIte]
  exact Le.of_eq (congrArg cB (by rw [Val.same, Bool.and_assoc]))
end Go.Ev
