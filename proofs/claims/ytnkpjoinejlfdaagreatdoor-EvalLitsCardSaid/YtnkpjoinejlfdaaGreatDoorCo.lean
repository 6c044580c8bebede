/-  scalar.Call at coalesce. -/
import Derived.Test.YtnkpjoinejlfdaaGreatDoorEv
set_option linter.all false
open Go Go.Proofs
namespace Go.Ev
abbrev sCoalesce : ByteArray := ⟨#[99, 111, 97, 108, 101, 115, 99, 101]⟩
set_option maxRecDepth 100000 in
theorem Arity_coalesce : Good Tryz.prog 41 [cS sCoalesce] [] (.tup [cI 1, cI (-1), cB true]) [] := by
  refine Good.of_vmQ TT 4000 Tryz.func41 rfl rfl ?_
  unfold Tryz.f41
  simp only [go_sem, Option.getD_some, Nat.reduceAdd, Nat.reduceBEq, Nat.reduceBNe, Nat.reduceMul, Nat.reduceSub, Nat.reduceEqDiff, Nat.reduceLT, Nat.reduceLeDiff, Int.reduceBEq, Int.reduceBNe, Int.reduceLT, Int.reduceLE, Int.reduceGT, Int.reduceGE, Int.reduceEq, Int.reduceAdd, Int.reduceSub, Int.reduceNeg, Int.reduceToNat, String.reduceEq, UInt8.reduceToNat, reduceCtorEq, ↓reduceIte]
set_option maxRecDepth 100000 in
theorem call1_good (x : Val) : Good Tryz.prog 44 [x.av] [] (cB (x.k != 0)) [] := by
  refine Good.of_vmQ TT 4000 Tryz.func44 rfl rfl ?_
  unfold Tryz.f44
  simp only [go_sem, Option.getD_some, Nat.reduceAdd, Nat.reduceBEq, Nat.reduceBNe, Nat.reduceMul, Nat.reduceSub, Nat.reduceEqDiff, Nat.reduceLT, Nat.reduceLeDiff, Int.reduceBEq, Int.reduceBNe, Int.reduceLT, Int.reduceLE, Int.reduceGT, Int.reduceGE, Int.reduceEq, Int.reduceAdd, Int.reduceSub, Int.reduceNeg, Int.reduceToNat, String.reduceEq, UInt8.reduceToNat, reduceCtorEq, ↓reduceIte]
set_option maxRecDepth 100000 in
theorem Call_coalesce (l : List Val) (hi : ∀ x, x ∈ l → I64 x.i) (hok : l.all Val.ok = true) (h0 : 0 < l.length) {x : Val} (hx : l[(max (idxOf (fun v => v.k != 0) l) 0).toNat]? = some x) :
    Good Tryz.prog 29 [cS sCoalesce, .c (rowC l)] [] (vals x 0) [] := by
  have h1 : ¬ ((l.length : Int) < 1) := by omega
  have h2 := (List.getElem?_eq_some_iff.1 hx).1
  refine Good.of_vmQ TT 4000 Tryz.func29 rfl rfl ?_
  unfold Tryz.f29
  simp only [go_sem, Option.getD_some, Nat.reduceAdd, Nat.reduceBEq, Nat.reduceBNe, Nat.reduceMul, Nat.reduceSub, Nat.reduceEqDiff, Nat.reduceLT, Nat.reduceLeDiff, Int.reduceBEq, Int.reduceBNe, Int.reduceLT, Int.reduceLE, Int.reduceGT, Int.reduceGE, Int.reduceEq, Int.reduceAdd, Int.reduceSub, Int.reduceNeg, Int.reduceToNat, String.reduceEq, UInt8.reduceToNat, reduceCtorEq, ↓reduceIte]
  (refine Cl.pure TT 4000 (Arity_coalesce) rfl rfl ?_; simp only [go_sem, Option.getD_some, Nat.reduceAdd, Nat.reduceBEq, Nat.reduceBNe, Nat.reduceMul, Nat.reduceSub, Nat.reduceEqDiff, Nat.reduceLT, Nat.reduceLeDiff, Int.reduceBEq, Int.reduceBNe, Int.reduceLT, Int.reduceLE, Int.reduceGT, Int.reduceGE, Int.reduceEq, Int.reduceAdd, Int.reduceSub, Int.reduceNeg, Int.reduceToNat, String.reduceEq, UInt8.reduceToNat, reduceCtorEq, ↓reduceIte])
  (refine Cl.pure TT 4000 (scalar_check l hi) rfl rfl ?_; simp only [go_sem, hok, h1, Option.getD_some, Nat.reduceAdd, Nat.reduceBEq, Nat.reduceBNe, Nat.reduceMul, Nat.reduceSub, Nat.reduceEqDiff, Nat.reduceLT, Nat.reduceLeDiff, Int.reduceBEq, Int.reduceBNe, Int.reduceLT, Int.reduceLE, Int.reduceGT, Int.reduceGE, Int.reduceEq, Int.reduceAdd, Int.reduceSub, Int.reduceNeg, Int.reduceToNat, String.reduceEq, UInt8.reduceToNat, reduceCtorEq, ↓reduceIte])
  refine Cl.pure TT 4000 (IndexFunc_good [] 44 [] _ rfl (fun v => v.k != 0) l fun x _ => call1_good x) rfl rfl ?_
  simp only [go_sem, Option.getD_some, Nat.reduceAdd, Nat.reduceBEq, Nat.reduceBNe, Nat.reduceMul, Nat.reduceSub, Nat.reduceEqDiff, Nat.reduceLT, Nat.reduceLeDiff, Int.reduceBEq, Int.reduceBNe, Int.reduceLT, Int.reduceLE, Int.reduceGT, Int.reduceGE, Int.reduceEq, Int.reduceAdd, Int.reduceSub, Int.reduceNeg, Int.reduceToNat, String.reduceEq, UInt8.reduceToNat, reduceCtorEq, ↓reduceIte]
  refine ⟨⟨by omega, by omega⟩, ?_⟩
  simp only [go_sem, hx, Option.getD_some, Nat.reduceAdd, Nat.reduceBEq, Nat.reduceBNe, Nat.reduceMul, Nat.reduceSub, Nat.reduceEqDiff, Nat.reduceLT, Nat.reduceLeDiff, Int.reduceBEq, Int.reduceBNe, Int.reduceLT, Int.reduceLE, Int.reduceGT, Int.reduceGE, Int.reduceEq, Int.reduceAdd, Int.reduceSub, Int.reduceNeg, Int.reduceToNat, String.reduceEq, UInt8.reduceToNat, reduceCtorEq, ↓reduceIte]
  exact Le.refl _
end Go.Ev
