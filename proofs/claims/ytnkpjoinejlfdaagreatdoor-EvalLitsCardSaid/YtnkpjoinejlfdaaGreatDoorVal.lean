/-  Values: what they are, Check. -/
import Derived.Test.YtnkpjoinejlfdaaGreatDoorBase
set_option linter.all false
open Go Go.Proofs
namespace Go.Ev
structure Val where
  k : Int
  i : Int
  s : ByteArray
abbrev cI (n : Int) : AV := .c (.int .i64 n)
abbrev cB (b : Bool) : AV := .c (.bool b)
abbrev cS (s : ByteArray) : AV := .c (.str s)
def Val.cs (v : Val) : List CV := [.int .i64 v.k, .int .i64 v.i, .str v.s]
def Val.av (v : Val) : AV := .agg [cI v.k, cI v.i, cS v.s]
attribute [go_sem] Val.cs Val.av
def Val.ok (v : Val) : Bool :=
  (v.k == 0 && v.i == 0 && v.s.size == 0) || (v.k == 1 && (v.i == 0 || v.i == 1) && v.s.size == 0) || (v.k == 2 && v.s.size == 0) || ((v.k == 3 || v.k == 4) && v.i == 0)

def Val.same (a b : Val) : Bool := a.k == b.k && a.i == b.i && a.s.toList == b.s.toList
def Val.lt (a b : Val) : Bool := decide (a.k < b.k) || (a.k == b.k && decide (a.i < b.i)) || (a.k == b.k && a.i == b.i && Op.bytesLess a.s.toList b.s.toList)
def Val.cmp (a b : Val) : Int := if a.lt b then -1 else if a.same b then 0 else 1

def I64 (n : Int) : Prop := -9223372036854775808 ≤ n ∧ n ≤ 9223372036854775807
theorem and_split (x y : BitVec 64) : x = (x &&& y) ||| (x &&& ~~~y) := by
  ext j hj
  simp only [BitVec.getElem_or, BitVec.getElem_and, BitVec.getElem_not]
  cases x[j] <;> cases y[j] <;> rfl
theorem andNot_bv (x : BitVec 64) : (x &&& ~~~1#64 = 0#64) ↔ (x = 0#64 ∨ x = 1#64) := by
  constructor
  · intro h
    have e := and_split x 1#64
    rw [h] at e
    have e2 : x.toNat = x.toNat % 2 := by
      have := congrArg BitVec.toNat e
      simpa [Nat.and_one_is_mod] using this
    have : x.toNat = 0 ∨ x.toNat = 1 := by omega
    rcases this with h | h
    · left; exact BitVec.eq_of_toNat_eq (by simpa using h)
    · right; exact BitVec.eq_of_toNat_eq (by simpa using h)
  · rintro (rfl | rfl) <;> decide
theorem andNot_one (i : Int) (hi : I64 i) : (bits BinOp.andNot IntKind.i64 i 1 != 0) = !(i == 0 || i == 1) := by
  unfold I64 at hi
  have h1 : bits BinOp.andNot IntKind.i64 i 1 = IntKind.i64.wrap ((BitVec.ofInt 64 i &&& ~~~1#64).toNat : Int) := rfl
  have hk := andNot_bv (BitVec.ofInt 64 i)
  have hz : (bits BinOp.andNot IntKind.i64 i 1 = 0) ↔ (BitVec.ofInt 64 i &&& ~~~1#64) = 0#64 := by
    rw [h1, IntKind.wrap_i64]
    generalize (BitVec.ofInt 64 i &&& ~~~1#64) = y
    have := y.isLt
    constructor
    · intro h; apply BitVec.eq_of_toNat_eq; simp; omega
    · intro h; subst h; decide
  have hx : ∀ m : Nat, m < 2 → (BitVec.ofInt 64 i = BitVec.ofNat 64 m ↔ i = m) := by
    intro m hm
    constructor
    · intro h
      have := congrArg BitVec.toNat h
      simp [BitVec.toNat_ofInt] at this
      omega
    · intro h; subst h; apply BitVec.eq_of_toNat_eq; simp
  have h0 := hx 0 (by omega)
  have h2 := hx 1 (by omega)
  rw [hk] at hz
  by_cases a : i = 0
  · subst a; decide
  · by_cases b : i = 1
    · subst b; decide
    · have : ¬ bits BinOp.andNot IntKind.i64 i 1 = 0 := by
        rw [hz]; rintro (h | h)
        · exact a (h0.1 h)
        · exact b (h2.1 h)
      rw [show (i == 0) = false from beq_eq_false_iff_ne.2 a, show (i == 1) = false from beq_eq_false_iff_ne.2 b, show (bits BinOp.andNot IntKind.i64 i 1 != 0) = true from bne_iff_ne.2 this]; rfl
theorem str_empty (s : ByteArray) : (s.toList == (⟨#[]⟩ : ByteArray).toList) = (s.size == 0) := by
  rw [Bool.eq_iff_iff, beq_iff_eq, beq_iff_eq, Go.ByteArray.toList_eq, Go.ByteArray.toList_eq]
  rcases s with ⟨⟨l⟩⟩
  show l = [] ↔ l.length = 0
  cases l <;> simp
attribute [go_sem] str_empty

set_option maxRecDepth 100000 in
theorem value_Check (v : Val) (hi : I64 v.i) : Good Tryz.prog 82 [v.av] [] (cI (if v.ok then 0 else 1)) [] := by
  have ha := andNot_one v.i hi
  refine Good.of_vmQ TT 4000 Tryz.func82 rfl rfl ?_
  unfold Tryz.f82
  simp only [go_sem, Option.getD_some, Nat.reduceAdd, Nat.reduceBEq, Nat.reduceBNe, Nat.reduceMul, Nat.reduceSub, Nat.reduceEqDiff, Nat.reduceLT, Nat.reduceLeDiff, Int.reduceBEq, Int.reduceBNe, Int.reduceLT, Int.reduceLE, Int.reduceGT, Int.reduceGE, Int.reduceEq, Int.reduceAdd, Int.reduceSub, Int.reduceNeg, Int.reduceToNat, String.reduceEq, UInt8.reduceToNat, reduceCtorEq, ↓reduceIte]
  repeat' first | (refine vm_sym (by simp only [go_sem]) ?_ ?_ <;> intro hg <;> simp only [go_sem, hg, ha, Option.getD_some, Nat.reduceAdd, Nat.reduceBEq, Nat.reduceBNe, Nat.reduceMul, Nat.reduceSub, Nat.reduceEqDiff, Nat.reduceLT, Nat.reduceLeDiff, Int.reduceBEq, Int.reduceBNe, Int.reduceLT, Int.reduceLE, Int.reduceGT, Int.reduceGE, Int.reduceEq, Int.reduceAdd, Int.reduceSub, Int.reduceNeg, Int.reduceToNat, String.reduceEq, UInt8.reduceToNat, reduceCtorEq, ↓reduceIte]) | (refine vm_br ?_ ?_ <;> intro hg <;> simp only [go_sem, hg, ha, Option.getD_some, Nat.reduceAdd, Nat.reduceBEq, Nat.reduceBNe, Nat.reduceMul, Nat.reduceSub, Nat.reduceEqDiff, Nat.reduceLT, Nat.reduceLeDiff, Int.reduceBEq, Int.reduceBNe, Int.reduceLT, Int.reduceLE, Int.reduceGT, Int.reduceGE, Int.reduceEq, Int.reduceAdd, Int.reduceSub, Int.reduceNeg, Int.reduceToNat, String.reduceEq, UInt8.reduceToNat, reduceCtorEq, ↓reduceIte])
  all_goals refine Le.of_eq (congrArg cI ?_)
  all_goals simp_all [Val.ok]
  all_goals first | omega | (refine ⟨⟨⟨fun _ => ?_, fun _ => ?_⟩, fun _ => ?_⟩, fun _ => ?_⟩ <;> omega)

set_option maxRecDepth 100000 in
theorem ref_Check (v : Val) : Good Tryz.prog 16 [v.av] [] (cI (if v.ok then 0 else 1)) [] := by
  refine Good.of_vmQ TT 4000 Tryz.func16 rfl rfl ?_
  unfold Tryz.f16
  simp only [go_sem, Option.getD_some, Nat.reduceAdd, Nat.reduceBEq, Nat.reduceBNe, Nat.reduceMul, Nat.reduceSub, Nat.reduceEqDiff, Nat.reduceLT, Nat.reduceLeDiff, Int.reduceBEq, Int.reduceBNe, Int.reduceLT, Int.reduceLE, Int.reduceGT, Int.reduceGE, Int.reduceEq, Int.reduceAdd, Int.reduceSub, Int.reduceNeg, Int.reduceToNat, String.reduceEq, UInt8.reduceToNat, reduceCtorEq, ↓reduceIte]
  repeat' first | (refine vm_sym (by simp only [go_sem]) ?_ ?_ <;> intro hg <;> simp only [go_sem, hg, Option.getD_some, Nat.reduceAdd, Nat.reduceBEq, Nat.reduceBNe, Nat.reduceMul, Nat.reduceSub, Nat.reduceEqDiff, Nat.reduceLT, Nat.reduceLeDiff, Int.reduceBEq, Int.reduceBNe, Int.reduceLT, Int.reduceLE, Int.reduceGT, Int.reduceGE, Int.reduceEq, Int.reduceAdd, Int.reduceSub, Int.reduceNeg, Int.reduceToNat, String.reduceEq, UInt8.reduceToNat, reduceCtorEq, ↓reduceIte]) | (refine vm_br ?_ ?_ <;> intro hg <;> simp only [go_sem, hg, Option.getD_some, Nat.reduceAdd, Nat.reduceBEq, Nat.reduceBNe, Nat.reduceMul, Nat.reduceSub, Nat.reduceEqDiff, Nat.reduceLT, Nat.reduceLeDiff, Int.reduceBEq, Int.reduceBNe, Int.reduceLT, Int.reduceLE, Int.reduceGT, Int.reduceGE, Int.reduceEq, Int.reduceAdd, Int.reduceSub, Int.reduceNeg, Int.reduceToNat, String.reduceEq, UInt8.reduceToNat, reduceCtorEq, ↓reduceIte])
  all_goals refine Le.of_eq (congrArg cI ?_)
  all_goals simp_all [Val.ok]

def checkRowS (l : List Val) : Int := if l.any (fun v => !v.ok) then 1 else if 64 < l.length then 2 else 0
def rowC (l : List Val) : CV := .lst 3 false (l.map Val.cs)
attribute [go_sem] rowC

set_option maxRecDepth 100000 in
theorem ref_CheckRow (l : List Val) : Good Tryz.prog 14 [.c (rowC l)] [] (cI (checkRowS l)) [] := by
  refine Good.bound (xs := l.map Val.cs) (List.mem_singleton.2 rfl) fun hl => ?_
  rw [List.length_map] at hl
  refine Good.of_vmQ TT 4000 Tryz.func14 rfl rfl ?_
  unfold Tryz.f14
  simp only [go_sem, Option.getD_some, Nat.reduceAdd, Nat.reduceBEq, Nat.reduceBNe, Nat.reduceMul, Nat.reduceSub, Nat.reduceEqDiff, Nat.reduceLT, Nat.reduceLeDiff, Int.reduceBEq, Int.reduceBNe, Int.reduceLT, Int.reduceLE, Int.reduceGT, Int.reduceGE, Int.reduceEq, Int.reduceAdd, Int.reduceSub, Int.reduceNeg, Int.reduceToNat, String.reduceEq, UInt8.reduceToNat, reduceCtorEq, ↓reduceIte]
  refine Lp.fit TT 4000 0 (Nat.le_refl _) (fun j : Nat => l.length - j) (fun j => j ≤ l.length ∧ (l.take j).any (fun v => !v.ok) = false)
    (fun j => ⟨[.c (rowC l), .und, cI 0, .und, .dead, .dead, .c (rowC l), cI l.length, cI j] ++ List.replicate 12 .dead, []⟩) 0 ⟨Nat.zero_le _, by simp⟩ ?_ ?_
  · simp only [go_sem, Option.getD_some, Nat.reduceAdd, Nat.reduceBEq, Nat.reduceBNe, Nat.reduceMul, Nat.reduceSub, Nat.reduceEqDiff, Nat.reduceLT, Nat.reduceLeDiff, Int.reduceBEq, Int.reduceBNe, Int.reduceLT, Int.reduceLE, Int.reduceGT, Int.reduceGE, Int.reduceEq, Int.reduceAdd, Int.reduceSub, Int.reduceNeg, Int.reduceToNat, String.reduceEq, UInt8.reduceToNat, reduceCtorEq, ↓reduceIte]
  · rintro j ⟨i1, i2⟩
    rcases Nat.lt_or_ge j l.length with hlt | hge
    · obtain ⟨x, hx, hm, ht, hd⟩ := getS hlt
      have hw := wrap_succ (j := j) (by omega)
      simp only [go_sem, hlt, hx, Option.getD_some, Nat.reduceAdd, Nat.reduceBEq, Nat.reduceBNe, Nat.reduceMul, Nat.reduceSub, Nat.reduceEqDiff, Nat.reduceLT, Nat.reduceLeDiff, Int.reduceBEq, Int.reduceBNe, Int.reduceLT, Int.reduceLE, Int.reduceGT, Int.reduceGE, Int.reduceEq, Int.reduceAdd, Int.reduceSub, Int.reduceNeg, Int.reduceToNat, String.reduceEq, UInt8.reduceToNat, reduceCtorEq, ↓reduceIte]
      refine Cl.pure TT 4000 (ref_Check x) rfl rfl ?_
      simp only [go_sem, hw, Option.getD_some, Nat.reduceAdd, Nat.reduceBEq, Nat.reduceBNe, Nat.reduceMul, Nat.reduceSub, Nat.reduceEqDiff, Nat.reduceLT, Nat.reduceLeDiff, Int.reduceBEq, Int.reduceBNe, Int.reduceLT, Int.reduceLE, Int.reduceGT, Int.reduceGE, Int.reduceEq, Int.reduceAdd, Int.reduceSub, Int.reduceNeg, Int.reduceToNat, String.reduceEq, UInt8.reduceToNat, reduceCtorEq, ↓reduceIte]
      cases hk : x.ok
      · simp only [go_sem, hk, Bool.false_eq_true, Option.getD_some, Nat.reduceAdd, Nat.reduceBEq, Nat.reduceBNe, Nat.reduceMul, Nat.reduceSub, Nat.reduceEqDiff, Nat.reduceLT, Nat.reduceLeDiff, Int.reduceBEq, Int.reduceBNe, Int.reduceLT, Int.reduceLE, Int.reduceGT, Int.reduceGE, Int.reduceEq, Int.reduceAdd, Int.reduceSub, Int.reduceNeg, Int.reduceToNat, String.reduceEq, UInt8.reduceToNat, reduceCtorEq, ↓reduceIte]
        refine Le.of_eq (congrArg cI ?_)
        have : l.any (fun v => !v.ok) = true := List.any_eq_true.2 ⟨x, hm, by rw [hk]; rfl⟩
        simp [checkRowS, this]
      · simp only [go_sem, hk, hw, Option.getD_some, Nat.reduceAdd, Nat.reduceBEq, Nat.reduceBNe, Nat.reduceMul, Nat.reduceSub, Nat.reduceEqDiff, Nat.reduceLT, Nat.reduceLeDiff, Int.reduceBEq, Int.reduceBNe, Int.reduceLT, Int.reduceLE, Int.reduceGT, Int.reduceGE, Int.reduceEq, Int.reduceAdd, Int.reduceSub, Int.reduceNeg, Int.reduceToNat, String.reduceEq, UInt8.reduceToNat, reduceCtorEq, ↓reduceIte]
        exact ⟨j + 1, by omega, ⟨by omega, by rw [ht, List.any_append, i2]; simp [hk]⟩, Fit1.of_eq rfl⟩
    · simp only [go_sem, Nat.not_lt.2 hge, Option.getD_some, Nat.reduceAdd, Nat.reduceBEq, Nat.reduceBNe, Nat.reduceMul, Nat.reduceSub, Nat.reduceEqDiff, Nat.reduceLT, Nat.reduceLeDiff, Int.reduceBEq, Int.reduceBNe, Int.reduceLT, Int.reduceLE, Int.reduceGT, Int.reduceGE, Int.reduceEq, Int.reduceAdd, Int.reduceSub, Int.reduceNeg, Int.reduceToNat, String.reduceEq, UInt8.reduceToNat, reduceCtorEq, ↓reduceIte]
      have : j = l.length := by omega
      subst this
      rw [List.take_length] at i2
      repeat' first | (refine vm_sym (by simp only [go_sem]) ?_ ?_ <;> intro hg <;> simp only [go_sem, hg, Option.getD_some, Nat.reduceAdd, Nat.reduceBEq, Nat.reduceBNe, Nat.reduceMul, Nat.reduceSub, Nat.reduceEqDiff, Nat.reduceLT, Nat.reduceLeDiff, Int.reduceBEq, Int.reduceBNe, Int.reduceLT, Int.reduceLE, Int.reduceGT, Int.reduceGE, Int.reduceEq, Int.reduceAdd, Int.reduceSub, Int.reduceNeg, Int.reduceToNat, String.reduceEq, UInt8.reduceToNat, reduceCtorEq, ↓reduceIte]) | (refine vm_br ?_ ?_ <;> intro hg <;> simp only [go_sem, hg, Option.getD_some, Nat.reduceAdd, Nat.reduceBEq, Nat.reduceBNe, Nat.reduceMul, Nat.reduceSub, Nat.reduceEqDiff, Nat.reduceLT, Nat.reduceLeDiff, Int.reduceBEq, Int.reduceBNe, Int.reduceLT, Int.reduceLE, Int.reduceGT, Int.reduceGE, Int.reduceEq, Int.reduceAdd, Int.reduceSub, Int.reduceNeg, Int.reduceToNat, String.reduceEq, UInt8.reduceToNat, reduceCtorEq, ↓reduceIte])
      all_goals refine Le.of_eq (congrArg cI ?_)
      all_goals simp [checkRowS, i2]
      all_goals simp at hg
      all_goals omega

set_option maxRecDepth 100000 in
theorem ref_Int1 (n : Int) : Good Tryz.prog 23 [cI n] [] (Val.mk 2 n ⟨#[]⟩).av [] := by
  refine Good.of_vmQ TT 4000 Tryz.func23 rfl rfl ?_
  unfold Tryz.f23
  simp only [go_sem, Option.getD_some, Nat.reduceAdd, Nat.reduceBEq, Nat.reduceBNe, Nat.reduceMul, Nat.reduceSub, Nat.reduceEqDiff, Nat.reduceLT, Nat.reduceLeDiff, Int.reduceBEq, Int.reduceBNe, Int.reduceLT, Int.reduceLE, Int.reduceGT, Int.reduceGE, Int.reduceEq, Int.reduceAdd, Int.reduceSub, Int.reduceNeg, Int.reduceToNat, String.reduceEq, UInt8.reduceToNat, reduceCtorEq, ↓reduceIte]
end Go.Ev
