/-  live() of layer 10: its calls, reckoned; Fold. -/
import Derived.Test.YtnkpjoinejlfdaaGreatDoorFields
import Derived.Test.YtnkpjoinejlfdaaGreatDoorFold
set_option linter.all false
open Go Go.Proofs
namespace Go.Ev
/-- .. and the reserved words. -/
def L1 : FuncId → List AV → List ABlk → Option (AV × List ABlk) := fun f args h => match f, args with
 | 164, [.c (.str s)] => if s = reservedS then some (.c (.lst 1 false (reservedL.map fun s => [.str s])), h) else none
 | f, args => L0 f args h
theorem L1_ok : CallOK Tryz.prog L1 := by
  intro f args h r h' hx
  unfold L1 at hx
  split at hx
  · split at hx
    · rename_i hs
      cases hx; subst hs
      exact Good.pure (h := h) fields_good rfl rfl
    · cases hx
  · exact L0_ok _ _ _ _ _ hx
/-- An expression's cells, as they are when it was just made. -/
abbrev cE (op : ByteArray) (k i : Int) (l : CV) : List CV := [.str op, .int .i64 k, .int .i64 i, .str sNone, .str sNone, .str sNone, l]
abbrev aE (op : ByteArray) (k i : Int) (l : CV) : AV := .agg [cS op, cI k, cI i, cS sNone, cS sNone, cS sNone, .c l]
abbrev cAt (i : Int) : List CV := cE sAt 2 i .nl
abbrev cN (n : Int) : List CV := cE sLit 2 n .nl
abbrev aAt (i : Int) : AV := aE sAt 2 i .nl
abbrev aN (n : Int) : AV := aE sLit 2 n .nl
abbrev cO (op : ByteArray) (a b : List CV) : List CV := cE op 0 0 (.lst 7 false [a, b])
abbrev aO (op : ByteArray) (a b : List CV) : AV := aE op 0 0 (.lst 7 false [a, b])
set_option maxRecDepth 100000 in
theorem mk_Int1 (n : Int) : Good Tryz.prog 23 [cI n] [] (.agg [cI 2, cI n, cS sNone]) [] := ref_Int1 n
set_option maxRecDepth 100000 in
theorem mk_lit (k i : Int) : Good Tryz.prog 17 [.agg [cI k, cI i, cS sNone]] [] (aE sLit k i .nl) [] := by
  refine Good.of_vmQ TT 4000 Tryz.func17 rfl rfl ?_
  unfold Tryz.f17
  simp only [go_sem, Option.getD_some, Nat.reduceAdd, Nat.reduceBEq, Nat.reduceBNe, Nat.reduceMul, Nat.reduceSub, Nat.reduceEqDiff, Nat.reduceLT, Nat.reduceLeDiff, Int.reduceBEq, Int.reduceBNe, Int.reduceLT, Int.reduceLE, Int.reduceGT, Int.reduceGE, Int.reduceEq, Int.reduceAdd, Int.reduceSub, Int.reduceNeg, Int.reduceToNat, String.reduceEq, UInt8.reduceToNat, reduceCtorEq, ↓reduceIte]
set_option maxRecDepth 100000 in
theorem mk_at (i : Int) : Good Tryz.prog 18 [cI i] [] (aAt i) [] := by
  refine Good.of_vmQ TT 4000 Tryz.func18 rfl rfl ?_
  unfold Tryz.f18
  simp only [go_sem, Option.getD_some, Nat.reduceAdd, Nat.reduceBEq, Nat.reduceBNe, Nat.reduceMul, Nat.reduceSub, Nat.reduceEqDiff, Nat.reduceLT, Nat.reduceLeDiff, Int.reduceBEq, Int.reduceBNe, Int.reduceLT, Int.reduceLE, Int.reduceGT, Int.reduceGE, Int.reduceEq, Int.reduceAdd, Int.reduceSub, Int.reduceNeg, Int.reduceToNat, String.reduceEq, UInt8.reduceToNat, reduceCtorEq, ↓reduceIte]
  (refine Cl.pure TT 4000 (mk_Int1 i) rfl rfl ?_; simp only [go_sem, Option.getD_some, Nat.reduceAdd, Nat.reduceBEq, Nat.reduceBNe, Nat.reduceMul, Nat.reduceSub, Nat.reduceEqDiff, Nat.reduceLT, Nat.reduceLeDiff, Int.reduceBEq, Int.reduceBNe, Int.reduceLT, Int.reduceLE, Int.reduceGT, Int.reduceGE, Int.reduceEq, Int.reduceAdd, Int.reduceSub, Int.reduceNeg, Int.reduceToNat, String.reduceEq, UInt8.reduceToNat, reduceCtorEq, ↓reduceIte])
set_option maxRecDepth 100000 in
theorem mk_op (op : ByteArray) (l : List (List CV)) : Good Tryz.prog 20 [cS op, .c (.lst 7 false l)] [] (aE op 0 0 (.lst 7 false l)) [] := by
  refine Good.of_vmQ TT 4000 Tryz.func20 rfl rfl ?_
  unfold Tryz.f20
  simp only [go_sem, Option.getD_some, Nat.reduceAdd, Nat.reduceBEq, Nat.reduceBNe, Nat.reduceMul, Nat.reduceSub, Nat.reduceEqDiff, Nat.reduceLT, Nat.reduceLeDiff, Int.reduceBEq, Int.reduceBNe, Int.reduceLT, Int.reduceLE, Int.reduceGT, Int.reduceGE, Int.reduceEq, Int.reduceAdd, Int.reduceSub, Int.reduceNeg, Int.reduceToNat, String.reduceEq, UInt8.reduceToNat, reduceCtorEq, ↓reduceIte]
set_option maxRecDepth 100000 in
theorem mk_num (n : Int) : Good Tryz.prog 22 [cI n] [] (aN n) [] := by
  refine Good.of_vmQ TT 4000 Tryz.func22 rfl rfl ?_
  unfold Tryz.f22
  simp only [go_sem, Option.getD_some, Nat.reduceAdd, Nat.reduceBEq, Nat.reduceBNe, Nat.reduceMul, Nat.reduceSub, Nat.reduceEqDiff, Nat.reduceLT, Nat.reduceLeDiff, Int.reduceBEq, Int.reduceBNe, Int.reduceLT, Int.reduceLE, Int.reduceGT, Int.reduceGE, Int.reduceEq, Int.reduceAdd, Int.reduceSub, Int.reduceNeg, Int.reduceToNat, String.reduceEq, UInt8.reduceToNat, reduceCtorEq, ↓reduceIte]
  (refine Cl.pure TT 4000 (mk_Int1 n) rfl rfl ?_; simp only [go_sem, Option.getD_some, Nat.reduceAdd, Nat.reduceBEq, Nat.reduceBNe, Nat.reduceMul, Nat.reduceSub, Nat.reduceEqDiff, Nat.reduceLT, Nat.reduceLeDiff, Int.reduceBEq, Int.reduceBNe, Int.reduceLT, Int.reduceLE, Int.reduceGT, Int.reduceGE, Int.reduceEq, Int.reduceAdd, Int.reduceSub, Int.reduceNeg, Int.reduceToNat, String.reduceEq, UInt8.reduceToNat, reduceCtorEq, ↓reduceIte])
  (refine Cl.pure TT 4000 (mk_lit 2 n) rfl rfl ?_; simp only [go_sem, Option.getD_some, Nat.reduceAdd, Nat.reduceBEq, Nat.reduceBNe, Nat.reduceMul, Nat.reduceSub, Nat.reduceEqDiff, Nat.reduceLT, Nat.reduceLeDiff, Int.reduceBEq, Int.reduceBNe, Int.reduceLT, Int.reduceLE, Int.reduceGT, Int.reduceGE, Int.reduceEq, Int.reduceAdd, Int.reduceSub, Int.reduceNeg, Int.reduceToNat, String.reduceEq, UInt8.reduceToNat, reduceCtorEq, ↓reduceIte])
abbrev bAdd : ByteArray := ⟨#[43]⟩
abbrev bMul : ByteArray := ⟨#[42]⟩
abbrev bDiv : ByteArray := ⟨#[47]⟩
abbrev bEq : ByteArray := ⟨#[61]⟩
abbrev nE (n : Int) : Expr := litE ⟨2, n, sNone⟩
abbrev lvZ : Expr := opE bDiv [nE 1, nE 0]
abbrev lvM : Expr := opE bMul [nE 2, nE 3]
abbrev lvF : Expr := opE bAdd [atE 0, lvM]
set_option maxRecDepth 100000 in
theorem lv_A : Good Tryz.prog 11 [aO bAdd (cAt 0) (cN 1), .c (.lst 3 false [[.int .i64 2, .int .i64 2, .str sNone]])] [] (vals ⟨2, 3, sNone⟩ 0) [] := Good.reckoned mixed16 L1_ok (fuel := 1000) (by kernel_rfl)
set_option maxRecDepth 100000 in
theorem lv_N : Good Tryz.prog 11 [aO bEq (cO bDiv (cN 1) (cN 0)) (cE sLit 0 0 .nl), .c .nl] [] (vals zeroV 31) [] := Good.reckoned mixed16 L1_ok (fuel := 1000) (by kernel_rfl)
set_option maxRecDepth 100000 in
theorem lv_Z : EvalR [] lvZ zeroV 31 := Good.reckoned mixed16 L1_ok (fuel := 1000) (by kernel_rfl)
set_option maxRecDepth 100000 in
theorem lv_M : EvalR [] lvM ⟨2, 6, sNone⟩ 0 := Good.reckoned mixed16 L1_ok (fuel := 1000) (by kernel_rfl)
set_option maxRecDepth 100000 in
theorem lv_c1 : Good Tryz.prog 12 [aAt 1, cI 1] [] (cI 1) [] := Good.reckoned mixed16 L1_ok (fuel := 1000) (by kernel_rfl)
set_option maxRecDepth 100000 in
theorem lv_c2 : Good Tryz.prog 12 [aO bAdd (cAt 0) (cO bMul (cN 2) (cN 3)), cI 9223372036854775807] [] (cI 0) [] := Good.reckoned mixed16 L1_ok (fuel := 1000) (by kernel_rfl)
set_option maxRecDepth 100000 in
theorem lv_c3 : Good Tryz.prog 12 [aO bDiv (cN 1) (cN 0), cI 9223372036854775807] [] (cI 0) [] := Good.reckoned mixed16 L1_ok (fuel := 1000) (by kernel_rfl)
set_option maxRecDepth 100000 in
theorem lv_s1 : Good Tryz.prog 13 [(opE bAdd [atE 0, nE 6]).av, aO bAdd (cAt 0) (cN 6)] [] (cB true) [] := Good.reckoned mixed16 L1_ok (fuel := 1000) (by kernel_rfl)
set_option maxRecDepth 100000 in
theorem lv_s2 : Good Tryz.prog 13 [lvZ.av, aO bDiv (cN 1) (cN 0)] [] (cB true) [] := Good.reckoned mixed16 L1_ok (fuel := 1000) (by kernel_rfl)
set_option maxRecDepth 100000 in
theorem Fold_good (ev : Expr → Option Val) (e : Expr) (l : CV) (hl : CLe l (.lst 7 false (e.l.map Expr.cs))) (hc : Good Tryz.prog 12 [.agg [cS e.op, cI e.v.k, cI e.v.i, cS e.v.s, cS e.table, cS e.name, .c l], cI 9223372036854775807] [] (cI 0) []) (ha : Expr.All (FoldOK ev) e) : Good Tryz.prog 10 [.agg [cS e.op, cI e.v.k, cI e.v.i, cS e.v.s, cS e.table, cS e.name, .c l]] [] (foldE ev e).av [] := by
  have hle : Les [.agg [cS e.op, cI e.v.k, cI e.v.i, cS e.v.s, cS e.table, cS e.name, .c l]] [e.av] := .cons (Le.agg (.cons (Le.refl _) (.cons (Le.refl _) (.cons (Le.refl _) (.cons (Le.refl _) (.cons (Le.refl _) (.cons (Le.refl _) (.cons (Le.c hl) .nil)))))))) .nil
  refine Good.of_vmQ TT 4000 Tryz.func10 rfl rfl ?_
  unfold Tryz.f10
  simp only [go_sem, Option.getD_some, Nat.reduceAdd, Nat.reduceBEq, Nat.reduceBNe, Nat.reduceMul, Nat.reduceSub, Nat.reduceEqDiff, Nat.reduceLT, Nat.reduceLeDiff, Int.reduceBEq, Int.reduceBNe, Int.reduceLT, Int.reduceLE, Int.reduceGT, Int.reduceGE, Int.reduceEq, Int.reduceAdd, Int.reduceSub, Int.reduceNeg, Int.reduceToNat, String.reduceEq, UInt8.reduceToNat, reduceCtorEq, ↓reduceIte]
  (refine Cl.pure TT 4000 (hc) rfl rfl ?_; simp only [go_sem, Option.getD_some, Nat.reduceAdd, Nat.reduceBEq, Nat.reduceBNe, Nat.reduceMul, Nat.reduceSub, Nat.reduceEqDiff, Nat.reduceLT, Nat.reduceLeDiff, Int.reduceBEq, Int.reduceBNe, Int.reduceLT, Int.reduceLE, Int.reduceGT, Int.reduceGE, Int.reduceEq, Int.reduceAdd, Int.reduceSub, Int.reduceNeg, Int.reduceToNat, String.reduceEq, UInt8.reduceToNat, reduceCtorEq, ↓reduceIte])
  refine Cl.pureL TT 4000 (fold_good ev e ha) rfl hle rfl ?_
  simp only [go_sem, Option.getD_some, Nat.reduceAdd, Nat.reduceBEq, Nat.reduceBNe, Nat.reduceMul, Nat.reduceSub, Nat.reduceEqDiff, Nat.reduceLT, Nat.reduceLeDiff, Int.reduceBEq, Int.reduceBNe, Int.reduceLT, Int.reduceLE, Int.reduceGT, Int.reduceGE, Int.reduceEq, Int.reduceAdd, Int.reduceSub, Int.reduceNeg, Int.reduceToNat, String.reduceEq, UInt8.reduceToNat, reduceCtorEq, ↓reduceIte]
def lvEv (e : Expr) : Option Val := if e.op.toList == bMul.toList then some ⟨2, 6, sNone⟩ else if e.op.toList == sLit.toList then some e.v else none
theorem lvEv_lit (v : Val) : Expr.All (FoldOK lvEv) (litE v) := by
  have hu : (litE v).uses [] = [] := by
    rw [Expr.uses_eq]
    have : ((litE v).op.toList == sAt.toList) = false := (bs_eq [108, 105, 116] [97, 116]).trans rfl
    rw [this]; rfl
  rw [Expr.All_iff]
  refine ⟨⟨by rw [hu]; exact List.nodup_nil, by rw [hu]; simp, by rw [hu]; simp, by simp [litE, Expr.l], fun _ => ⟨v, 0, Eval_lit [] (litE v) (beq_self_eq_true _), ?_⟩⟩, fun x hx => by cases hx⟩
  have h1 : ((litE v).op.toList == bMul.toList) = false := (bs_eq [108, 105, 116] [42]).trans rfl
  have h2 : ((litE v).op.toList == sLit.toList) = true := beq_self_eq_true _
  unfold lvEv; rw [h1, h2]; rfl
theorem lvEv_op {op : ByteArray} {l : List Expr} (ho : (op.toList == sAt.toList) = false) (hu : Expr.usesL l [] = [] ∨ Expr.usesL l [] = [0]) (hl : l.length ≤ 1000000) (hv : Expr.usesL l [] = [] → ∃ v f, EvalR [] (opE op l) v f ∧ lvEv (opE op l) = if f = 0 then some v else none) (hs : ∀ x, x ∈ l → Expr.All (FoldOK lvEv) x) : Expr.All (FoldOK lvEv) (opE op l) := by
  have e : (opE op l).uses [] = Expr.usesL l [] := by
    rw [Expr.uses_eq]
    have : ((opE op l).op.toList == sAt.toList) = false := ho
    rw [this]; rfl
  rw [Expr.All_iff]
  refine ⟨⟨?_, ?_, ?_, hl, fun h => hv (e ▸ h)⟩, hs⟩ <;> rw [e]
  · rcases hu with h | h <;> rw [h] <;> simp
  · rcases hu with h | h <;> rw [h] <;> simp [I64]
  · rcases hu with h | h <;> rw [h] <;> simp
theorem uses_lit (v : Val) (ns : List Int) : (litE v).uses ns = ns := by
  rw [Expr.uses_eq]
  have : ((litE v).op.toList == sAt.toList) = false := (bs_eq [108, 105, 116] [97, 116]).trans rfl
  rw [this]; rfl
theorem lv_okZ : Expr.All (FoldOK lvEv) lvZ := by
  refine lvEv_op ((bs_eq [47] [97, 116]).trans rfl) (.inl ?_) (by decide) (fun _ => ⟨_, _, lv_Z, ?_⟩) (fun x hx => ?_)
  · simp only [Expr.usesL, uses_lit]
  · have h1 : (bDiv.toList == bMul.toList) = false := (bs_eq [47] [42]).trans rfl
    have h2 : (bDiv.toList == sLit.toList) = false := (bs_eq [47] [108, 105, 116]).trans rfl
    show (if (bDiv.toList == bMul.toList) then _ else if (bDiv.toList == sLit.toList) then _ else _) = _
    rw [h1, h2]; rfl
  · simp only [List.mem_cons, List.not_mem_nil, or_false] at hx
    rcases hx with rfl | rfl <;> exact lvEv_lit _
theorem lv_okM : Expr.All (FoldOK lvEv) lvM := by
  refine lvEv_op ((bs_eq [42] [97, 116]).trans rfl) (.inl ?_) (by decide) (fun _ => ⟨_, _, lv_M, ?_⟩) (fun x hx => ?_)
  · simp only [Expr.usesL, uses_lit]
  · show (if (bMul.toList == bMul.toList) then _ else _) = _
    rw [beq_self_eq_true]; rfl
  · simp only [List.mem_cons, List.not_mem_nil, or_false] at hx
    rcases hx with rfl | rfl <;> exact lvEv_lit _
theorem uses_at (i : Int) : (atE i).uses [] = [i] := by
  rw [Expr.uses_eq]
  have : ((atE i).op.toList == sAt.toList) = true := beq_self_eq_true _
  rw [this]; rfl
theorem uses_M (ns : List Int) : lvM.uses ns = ns := by
  rw [Expr.uses_eq]
  have : (lvM.op.toList == sAt.toList) = false := (bs_eq [42] [97, 116]).trans rfl
  rw [this]
  show Expr.usesL [nE 2, nE 3] ns = ns
  simp only [Expr.usesL, uses_lit]
theorem lv_okF : Expr.All (FoldOK lvEv) lvF := by
  have hu : Expr.usesL [atE 0, lvM] [] = [0] := by simp only [Expr.usesL, uses_at, uses_M]
  refine lvEv_op ((bs_eq [43] [97, 116]).trans rfl) (.inr hu) (by decide) (fun h => by rw [hu] at h; cases h) (fun x hx => ?_)
  simp only [List.mem_cons, List.not_mem_nil, or_false] at hx
  rcases hx with rfl | rfl
  · rw [Expr.All_iff]
    refine ⟨⟨by rw [uses_at]; simp, by rw [uses_at]; simp [I64], by rw [uses_at]; simp, by simp [atE, Expr.l], fun h => by rw [uses_at] at h; cases h⟩, fun x hx => by cases hx⟩
  · exact lv_okM
theorem fold_lit (v : Val) : foldE lvEv (litE v) = litE v := by
  have h1 : ((litE v).op.toList == bMul.toList) = false := (bs_eq [108, 105, 116] [42]).trans rfl
  have h2 : ((litE v).op.toList == sLit.toList) = true := beq_self_eq_true _
  have h3 : lvEv (litE v) = some v := by unfold lvEv; rw [h1, h2]; rfl
  rw [foldE_eq, uses_lit, h3]; rfl
theorem fold_Z : foldE lvEv lvZ = lvZ := by
  have h0 : lvZ.uses [] = [] := by
    rw [Expr.uses_eq]
    have : (lvZ.op.toList == sAt.toList) = false := (bs_eq [47] [97, 116]).trans rfl
    rw [this]
    show Expr.usesL [nE 1, nE 0] [] = []
    simp only [Expr.usesL, uses_lit]
  have h1 : (lvZ.op.toList == bMul.toList) = false := (bs_eq [47] [42]).trans rfl
  have h2 : (lvZ.op.toList == sLit.toList) = false := (bs_eq [47] [108, 105, 116]).trans rfl
  have h3 : lvEv lvZ = none := by unfold lvEv; rw [h1, h2]; rfl
  rw [foldE_eq, h0, h3]
  show Expr.mk _ _ _ _ [foldE lvEv (nE 1), foldE lvEv (nE 0)] = _
  rw [fold_lit, fold_lit]; rfl
theorem fold_F : foldE lvEv lvF = opE bAdd [atE 0, nE 6] := by
  have h0 : lvF.uses [] = [0] := by
    rw [Expr.uses_eq]
    have : (lvF.op.toList == sAt.toList) = false := (bs_eq [43] [97, 116]).trans rfl
    rw [this]
    show Expr.usesL [atE 0, lvM] [] = [0]
    simp only [Expr.usesL, uses_at, uses_M]
  have h1 : (lvM.op.toList == bMul.toList) = true := beq_self_eq_true _
  have h3 : lvEv lvM = some ⟨2, 6, sNone⟩ := by unfold lvEv; rw [h1]; rfl
  have h4 : foldE lvEv lvM = nE 6 := by rw [foldE_eq, uses_M, h3]; rfl
  have h5 : foldE lvEv (atE 0) = atE 0 := by rw [foldE_eq, uses_at]; rfl
  rw [foldE_eq, h0]
  show Expr.mk _ _ _ _ [foldE lvEv (atE 0), foldE lvEv lvM] = _
  rw [h4, h5]; rfl
end Go.Ev
