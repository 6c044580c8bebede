/-  eval.works: what an Op does. -/
import Derived.Test.YtnkpjoinejlfdaaGreatDoorEv
set_option linter.all false
open Go Go.Proofs
namespace Go.Ev
set_option maxRecDepth 100000 in
theorem one_good (F : CV) : Good Tryz.prog 48 [.c F] [] (.tup [.agg [cI 1, cI 1, .c (.fn 49 [.pt [F]])], cB true]) [] := by
  refine Good.of_vmQ TT 4000 Tryz.func48 rfl rfl ?_
  unfold Tryz.f48
  simp only [go_sem, Option.getD_some, Nat.reduceAdd, Nat.reduceBEq, Nat.reduceBNe, Nat.reduceMul, Nat.reduceSub, Nat.reduceEqDiff, Nat.reduceLT, Nat.reduceLeDiff, Int.reduceBEq, Int.reduceBNe, Int.reduceLT, Int.reduceLE, Int.reduceGT, Int.reduceGE, Int.reduceEq, Int.reduceAdd, Int.reduceSub, Int.reduceNeg, Int.reduceToNat, String.reduceEq, UInt8.reduceToNat, reduceCtorEq, ↓reduceIte]

set_option maxRecDepth 100000 in
theorem one1_good (g : FuncId) (caps : List CV) (vs : List Val) (x : Val) (hx : vs[0]? = some x) {res : Val} {f : Int} (G : Good Tryz.prog g (x.av :: caps.map opn) [] (vals res f) []) : Good Tryz.prog 49 [.c (rowC vs), .rd [.fn g caps]] [] (vals res f) [] := by
  have h0 : 0 < vs.length := (List.getElem?_eq_some_iff.1 hx).1
  refine Good.of_vmQ TT 4000 Tryz.func49 rfl rfl ?_
  unfold Tryz.f49
  simp only [go_sem, Option.getD_some, Nat.reduceAdd, Nat.reduceBEq, Nat.reduceBNe, Nat.reduceMul, Nat.reduceSub, Nat.reduceEqDiff, Nat.reduceLT, Nat.reduceLeDiff, Int.reduceBEq, Int.reduceBNe, Int.reduceLT, Int.reduceLE, Int.reduceGT, Int.reduceGE, Int.reduceEq, Int.reduceAdd, Int.reduceSub, Int.reduceNeg, Int.reduceToNat, String.reduceEq, UInt8.reduceToNat, reduceCtorEq, ↓reduceIte]
  refine Dr.of TT (by kernel_rfl) [(g, x.av :: caps.map opn, vals res f)] ⟨⟨G, rfl⟩, trivial⟩ ?_
  simp only [go_sem, hx, h0, Option.getD_some, Nat.reduceAdd, Nat.reduceBEq, Nat.reduceBNe, Nat.reduceMul, Nat.reduceSub, Nat.reduceEqDiff, Nat.reduceLT, Nat.reduceLeDiff, Int.reduceBEq, Int.reduceBNe, Int.reduceLT, Int.reduceLE, Int.reduceGT, Int.reduceGE, Int.reduceEq, Int.reduceAdd, Int.reduceSub, Int.reduceNeg, Int.reduceToNat, String.reduceEq, UInt8.reduceToNat, reduceCtorEq, ↓reduceIte]
  refine ⟨by omega, DEnd.of TT 4000 (memOK_of2 (by kernel_rfl)) ?_⟩
  simp only [go_sem, Option.getD_some, Nat.reduceAdd, Nat.reduceBEq, Nat.reduceBNe, Nat.reduceMul, Nat.reduceSub, Nat.reduceEqDiff, Nat.reduceLT, Nat.reduceLeDiff, Int.reduceBEq, Int.reduceBNe, Int.reduceLT, Int.reduceLE, Int.reduceGT, Int.reduceGE, Int.reduceEq, Int.reduceAdd, Int.reduceSub, Int.reduceNeg, Int.reduceToNat, String.reduceEq, UInt8.reduceToNat, reduceCtorEq, ↓reduceIte]
  exact Le.refl _

def truthV (b : Bool) : Val := ⟨1, if b then 1 else 0, ⟨#[]⟩⟩
set_option maxRecDepth 100000 in
theorem evtruth_good (b : Bool) : Good Tryz.prog 55 [cB b] [] (truthV b).av [] := by
  refine Good.of_vmQ TT 4000 Tryz.func55 rfl rfl ?_
  unfold Tryz.f55
  cases b <;> simp only [go_sem, Option.getD_some, Nat.reduceAdd, Nat.reduceBEq, Nat.reduceBNe, Nat.reduceMul, Nat.reduceSub, Nat.reduceEqDiff, Nat.reduceLT, Nat.reduceLeDiff, Int.reduceBEq, Int.reduceBNe, Int.reduceLT, Int.reduceLE, Int.reduceGT, Int.reduceGE, Int.reduceEq, Int.reduceAdd, Int.reduceSub, Int.reduceNeg, Int.reduceToNat, String.reduceEq, UInt8.reduceToNat, reduceCtorEq, ↓reduceIte]
  · exact Le.refl _
  · exact Le.refl _

abbrev sIsnull : ByteArray := ⟨#[105, 115, 110, 117, 108, 108]⟩
set_option maxRecDepth 100000 in
theorem works3_good (x : Val) (op : ByteArray) : Good Tryz.prog 54 [x.av, .rd [.str op]] [] (vals (truthV ((x.k == 0) == (op.toList == sIsnull.toList))) 0) [] := by
  refine Good.of_vmQ TT 4000 Tryz.func54 rfl rfl ?_
  unfold Tryz.f54
  simp only [go_sem, Option.getD_some, Nat.reduceAdd, Nat.reduceBEq, Nat.reduceBNe, Nat.reduceMul, Nat.reduceSub, Nat.reduceEqDiff, Nat.reduceLT, Nat.reduceLeDiff, Int.reduceBEq, Int.reduceBNe, Int.reduceLT, Int.reduceLE, Int.reduceGT, Int.reduceGE, Int.reduceEq, Int.reduceAdd, Int.reduceSub, Int.reduceNeg, Int.reduceToNat, String.reduceEq, UInt8.reduceToNat, reduceCtorEq, ↓reduceIte]
  (refine Cl.pure TT 4000 (evtruth_good ((x.k == 0) == (op.toList == sIsnull.toList))) rfl rfl ?_; simp only [go_sem, Option.getD_some, Nat.reduceAdd, Nat.reduceBEq, Nat.reduceBNe, Nat.reduceMul, Nat.reduceSub, Nat.reduceEqDiff, Nat.reduceLT, Nat.reduceLeDiff, Int.reduceBEq, Int.reduceBNe, Int.reduceLT, Int.reduceLE, Int.reduceGT, Int.reduceGE, Int.reduceEq, Int.reduceAdd, Int.reduceSub, Int.reduceNeg, Int.reduceToNat, String.reduceEq, UInt8.reduceToNat, reduceCtorEq, ↓reduceIte])
  exact Le.refl _

set_option maxRecDepth 100000 in
theorem works_isnull : Good Tryz.prog 30 [cS sIsnull] [] (.tup [.agg [cI 1, cI 1, .c (.fn 49 [.pt [.fn 54 [.pt [.str sIsnull]]]])], cB true]) [] := by
  refine Good.of_vmQ TT 4000 Tryz.func30 rfl rfl ?_
  unfold Tryz.f30
  simp only [go_sem, Option.getD_some, Nat.reduceAdd, Nat.reduceBEq, Nat.reduceBNe, Nat.reduceMul, Nat.reduceSub, Nat.reduceEqDiff, Nat.reduceLT, Nat.reduceLeDiff, Int.reduceBEq, Int.reduceBNe, Int.reduceLT, Int.reduceLE, Int.reduceGT, Int.reduceGE, Int.reduceEq, Int.reduceAdd, Int.reduceSub, Int.reduceNeg, Int.reduceToNat, String.reduceEq, UInt8.reduceToNat, reduceCtorEq, ↓reduceIte]
  refine Cl.fzP TT 4000 0 1 ?_
  simp only [go_sem, Option.getD_some, Nat.reduceAdd, Nat.reduceBEq, Nat.reduceBNe, Nat.reduceMul, Nat.reduceSub, Nat.reduceEqDiff, Nat.reduceLT, Nat.reduceLeDiff, Int.reduceBEq, Int.reduceBNe, Int.reduceLT, Int.reduceLE, Int.reduceGT, Int.reduceGE, Int.reduceEq, Int.reduceAdd, Int.reduceSub, Int.reduceNeg, Int.reduceToNat, String.reduceEq, UInt8.reduceToNat, reduceCtorEq, ↓reduceIte]
  refine Cl.pure TT 4000 (one_good (.fn 54 [.pt [.str sIsnull]])) rfl rfl ?_
  simp only [go_sem, Option.getD_some, Nat.reduceAdd, Nat.reduceBEq, Nat.reduceBNe, Nat.reduceMul, Nat.reduceSub, Nat.reduceEqDiff, Nat.reduceLT, Nat.reduceLeDiff, Int.reduceBEq, Int.reduceBNe, Int.reduceLT, Int.reduceLE, Int.reduceGT, Int.reduceGE, Int.reduceEq, Int.reduceAdd, Int.reduceSub, Int.reduceNeg, Int.reduceToNat, String.reduceEq, UInt8.reduceToNat, reduceCtorEq, ↓reduceIte]
end Go.Ev
