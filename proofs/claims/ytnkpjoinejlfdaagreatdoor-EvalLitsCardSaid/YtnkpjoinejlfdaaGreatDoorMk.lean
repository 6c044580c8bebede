/-  The reference's makers of expressions. -/
import Derived.Test.YtnkpjoinejlfdaaGreatDoorEv
set_option linter.all false
open Go Go.Proofs
namespace Go.Ev
abbrev sNone : ByteArray := ⟨#[]⟩
theorem nlE (a b c d e f : AV) : Le (.agg [a, b, c, d, e, f, .c .nl]) (.agg [a, b, c, d, e, f, .c (.lst 7 false [])]) :=
  Le.agg (.cons (Le.refl _) (.cons (Le.refl _) (.cons (Le.refl _) (.cons (Le.refl _) (.cons (Le.refl _) (.cons (Le.refl _) (.cons (Le.c (CLe.nl 7 false)) .nil)))))))
def litE (v : Val) : Expr := .mk sLit v sNone sNone []
def atE (i : Int) : Expr := .mk sAt ⟨2, i, sNone⟩ sNone sNone []
def callE (name : ByteArray) (l : List Expr) : Expr := .mk sCall zeroV sNone name l
def opE (op : ByteArray) (l : List Expr) : Expr := .mk op zeroV sNone sNone l
set_option maxRecDepth 100000 in
theorem ref_Lit (v : Val) : Good Tryz.prog 17 [v.av] [] (litE v).av [] := by
  refine Good.of_vmQ TT 4000 Tryz.func17 rfl rfl ?_
  unfold Tryz.f17
  simp only [go_sem, Option.getD_some, Nat.reduceAdd, Nat.reduceBEq, Nat.reduceBNe, Nat.reduceMul, Nat.reduceSub, Nat.reduceEqDiff, Nat.reduceLT, Nat.reduceLeDiff, Int.reduceBEq, Int.reduceBNe, Int.reduceLT, Int.reduceLE, Int.reduceGT, Int.reduceGE, Int.reduceEq, Int.reduceAdd, Int.reduceSub, Int.reduceNeg, Int.reduceToNat, String.reduceEq, UInt8.reduceToNat, reduceCtorEq, ↓reduceIte]
  exact nlE ..
set_option maxRecDepth 100000 in
theorem ref_At1 (i : Int) : Good Tryz.prog 18 [cI i] [] (atE i).av [] := by
  refine Good.of_vmQ TT 4000 Tryz.func18 rfl rfl ?_
  unfold Tryz.f18
  simp only [go_sem, Option.getD_some, Nat.reduceAdd, Nat.reduceBEq, Nat.reduceBNe, Nat.reduceMul, Nat.reduceSub, Nat.reduceEqDiff, Nat.reduceLT, Nat.reduceLeDiff, Int.reduceBEq, Int.reduceBNe, Int.reduceLT, Int.reduceLE, Int.reduceGT, Int.reduceGE, Int.reduceEq, Int.reduceAdd, Int.reduceSub, Int.reduceNeg, Int.reduceToNat, String.reduceEq, UInt8.reduceToNat, reduceCtorEq, ↓reduceIte]
  (refine Cl.pure TT 4000 (ref_Int1 i) rfl rfl ?_; simp only [go_sem, Option.getD_some, Nat.reduceAdd, Nat.reduceBEq, Nat.reduceBNe, Nat.reduceMul, Nat.reduceSub, Nat.reduceEqDiff, Nat.reduceLT, Nat.reduceLeDiff, Int.reduceBEq, Int.reduceBNe, Int.reduceLT, Int.reduceLE, Int.reduceGT, Int.reduceGE, Int.reduceEq, Int.reduceAdd, Int.reduceSub, Int.reduceNeg, Int.reduceToNat, String.reduceEq, UInt8.reduceToNat, reduceCtorEq, ↓reduceIte])
  exact nlE ..
set_option maxRecDepth 100000 in
theorem ref_Call1 (name : ByteArray) (l : List Expr) : Good Tryz.prog 19 [cS name, .c (.lst 7 false (l.map Expr.cs))] [] (callE name l).av [] := by
  refine Good.of_vmQ TT 4000 Tryz.func19 rfl rfl ?_
  unfold Tryz.f19
  simp only [go_sem, Option.getD_some, Nat.reduceAdd, Nat.reduceBEq, Nat.reduceBNe, Nat.reduceMul, Nat.reduceSub, Nat.reduceEqDiff, Nat.reduceLT, Nat.reduceLeDiff, Int.reduceBEq, Int.reduceBNe, Int.reduceLT, Int.reduceLE, Int.reduceGT, Int.reduceGE, Int.reduceEq, Int.reduceAdd, Int.reduceSub, Int.reduceNeg, Int.reduceToNat, String.reduceEq, UInt8.reduceToNat, reduceCtorEq, ↓reduceIte]
  exact Le.refl _
set_option maxRecDepth 100000 in
theorem ref_Op1 (op : ByteArray) (l : List Expr) : Good Tryz.prog 20 [cS op, .c (.lst 7 false (l.map Expr.cs))] [] (opE op l).av [] := by
  refine Good.of_vmQ TT 4000 Tryz.func20 rfl rfl ?_
  unfold Tryz.f20
  simp only [go_sem, Option.getD_some, Nat.reduceAdd, Nat.reduceBEq, Nat.reduceBNe, Nat.reduceMul, Nat.reduceSub, Nat.reduceEqDiff, Nat.reduceLT, Nat.reduceLeDiff, Int.reduceBEq, Int.reduceBNe, Int.reduceLT, Int.reduceLE, Int.reduceGT, Int.reduceGE, Int.reduceEq, Int.reduceAdd, Int.reduceSub, Int.reduceNeg, Int.reduceToNat, String.reduceEq, UInt8.reduceToNat, reduceCtorEq, ↓reduceIte]
  exact Le.refl _
end Go.Ev
