import Derived.Test.YtnkpjoinejlfdaaGreatDoorMe1
import Derived.Test.YtnkpjoinejlfdaaGreatDoorMk1
section
set_option linter.all false
set_option linter.all false
open Go Go.Proofs
namespace Go.Ev
def L0 : FuncId → List AV → List ABlk → Option (AV × List ABlk) := fun f args h => match f, args with
 | 181, [.c (.str a), .c (.str b)] => some (cmpStr a b, h)
 | 179, [.c (.str a), .c (.int .u8 b)] => some (countStr a b, h)
 | 189, [.c (.str a), .c (.int .u8 b)] => some (idxByte a b, h)
 | _, _ => none
theorem idxByte_cl (a : ByteArray) (c : Int) : (idxByte a c).cl = true := by unfold idxByte; split <;> rfl
theorem L0_ok : CallOK Tryz.prog L0 := by
  intro f args h r h' hx
  unfold L0 at hx
  split at hx
  · cases hx; exact Good.ext Tryz.func181 rfl rfl (by rfl) (by rfl) rfl fun w N ρ vs hl hr => compare_run _ _ _ w N ρ vs hl hr
  · cases hx; exact Good.ext Tryz.func179 rfl rfl (by rfl) (by rfl) rfl fun w N ρ vs hl hr => count_run _ _ _ w N ρ vs hl hr
  · cases hx; exact Good.ext Tryz.func189 rfl rfl (by rfl) (by rfl) (idxByte_cl _ _) fun w N ρ vs hl hr => idxByte_run _ _ _ w N ρ vs hl hr
  · cases hx
abbrev reservedS : ByteArray := ⟨#[32, 97, 108, 108, 32, 97, 110, 100, 32, 97, 115, 32, 97, 115, 99, 32, 98, 101, 103, 105, 110, 32, 98, 101, 116, 119, 101, 101, 110, 32, 98, 108, 111, 98, 32, 98, 111, 111, 108, 32, 98, 121, 32, 99, 97, 115, 101, 32, 99, 111, 109, 109, 105, 116, 32, 99, 114, 101, 97, 116, 101, 32, 99, 114, 111, 115, 115, 32, 100, 101, 108, 101, 116, 101, 32, 100, 101, 115, 99, 32, 100, 105, 115, 116, 105, 110, 99, 116, 32, 100, 114, 111, 112, 32, 101, 120, 99, 101, 112, 116, 32, 101, 120, 105, 115, 116, 115, 32, 102, 97, 108, 115, 101, 32, 102, 114, 111, 109, 32, 102, 117, 108, 108, 32, 103, 114, 111, 117, 112, 32, 104, 97, 118, 105, 110, 103, 32, 105, 110, 32, 105, 110, 100, 101, 120, 32, 105, 110, 110, 101, 114, 32, 105, 110, 115, 101, 114, 116, 32, 105, 110, 116, 32, 105, 110, 116, 101, 114, 115, 101, 99, 116, 32, 105, 110, 116, 111, 32, 105, 115, 32, 106, 111, 105, 110, 32, 107, 101, 121, 32, 108, 101, 102, 116, 32, 108, 105, 107, 101, 32, 108, 105, 109, 105, 116, 32, 110, 111, 116, 32, 110, 117, 108, 108, 32, 111, 102, 102, 115, 101, 116, 32, 111, 110, 32, 111, 114, 32, 111, 114, 100, 101, 114, 32, 111, 117, 116, 101, 114, 32, 112, 114, 105, 109, 97, 114, 121, 32, 114, 105, 103, 104, 116, 32, 114, 111, 108, 108, 98, 97, 99, 107, 32, 115, 101, 108, 101, 99, 116, 32, 115, 101, 116, 32, 116, 97, 98, 108, 101, 32, 116, 101, 120, 116, 32, 116, 114, 117, 101, 32, 117, 110, 105, 111, 110, 32, 117, 110, 105, 113, 117, 101, 32, 117, 112, 100, 97, 116, 101, 32, 117, 115, 105, 110, 103, 32, 118, 97, 108, 117, 101, 115, 32, 119, 104, 101, 114, 101, 32]⟩
def reservedL : List ByteArray := [⟨#[97, 108, 108]⟩, ⟨#[97, 110, 100]⟩, ⟨#[97, 115]⟩, ⟨#[97, 115, 99]⟩, ⟨#[98, 101, 103, 105, 110]⟩, ⟨#[98, 101, 116, 119, 101, 101, 110]⟩, ⟨#[98, 108, 111, 98]⟩, ⟨#[98, 111, 111, 108]⟩, ⟨#[98, 121]⟩, ⟨#[99, 97, 115, 101]⟩, ⟨#[99, 111, 109, 109, 105, 116]⟩, ⟨#[99, 114, 101, 97, 116, 101]⟩, ⟨#[99, 114, 111, 115, 115]⟩, ⟨#[100, 101, 108, 101, 116, 101]⟩, ⟨#[100, 101, 115, 99]⟩, ⟨#[100, 105, 115, 116, 105, 110, 99, 116]⟩, ⟨#[100, 114, 111, 112]⟩, ⟨#[101, 120, 99, 101, 112, 116]⟩, ⟨#[101, 120, 105, 115, 116, 115]⟩, ⟨#[102, 97, 108, 115, 101]⟩, ⟨#[102, 114, 111, 109]⟩, ⟨#[102, 117, 108, 108]⟩, ⟨#[103, 114, 111, 117, 112]⟩, ⟨#[104, 97, 118, 105, 110, 103]⟩, ⟨#[105, 110]⟩, ⟨#[105, 110, 100, 101, 120]⟩, ⟨#[105, 110, 110, 101, 114]⟩, ⟨#[105, 110, 115, 101, 114, 116]⟩, ⟨#[105, 110, 116]⟩, ⟨#[105, 110, 116, 101, 114, 115, 101, 99, 116]⟩, ⟨#[105, 110, 116, 111]⟩, ⟨#[105, 115]⟩, ⟨#[106, 111, 105, 110]⟩, ⟨#[107, 101, 121]⟩, ⟨#[108, 101, 102, 116]⟩, ⟨#[108, 105, 107, 101]⟩, ⟨#[108, 105, 109, 105, 116]⟩, ⟨#[110, 111, 116]⟩, ⟨#[110, 117, 108, 108]⟩, ⟨#[111, 102, 102, 115, 101, 116]⟩, ⟨#[111, 110]⟩, ⟨#[111, 114]⟩, ⟨#[111, 114, 100, 101, 114]⟩, ⟨#[111, 117, 116, 101, 114]⟩, ⟨#[112, 114, 105, 109, 97, 114, 121]⟩, ⟨#[114, 105, 103, 104, 116]⟩, ⟨#[114, 111, 108, 108, 98, 97, 99, 107]⟩, ⟨#[115, 101, 108, 101, 99, 116]⟩, ⟨#[115, 101, 116]⟩, ⟨#[116, 97, 98, 108, 101]⟩, ⟨#[116, 101, 120, 116]⟩, ⟨#[116, 114, 117, 101]⟩, ⟨#[117, 110, 105, 111, 110]⟩, ⟨#[117, 110, 105, 113, 117, 101]⟩, ⟨#[117, 112, 100, 97, 116, 101]⟩, ⟨#[117, 115, 105, 110, 103]⟩, ⟨#[118, 97, 108, 117, 101, 115]⟩, ⟨#[119, 104, 101, 114, 101]⟩]
set_option maxRecDepth 100000 in
theorem fields_rows : Good Tryz.prog 164 [.c (.str reservedS)] [] (.sl 1 0 58) [.rows 1 9 [], .rows 1 9 (reservedL.map fun s => [.str s])] := Good.reckoned mixed16 L0_ok (fuel := 2000) (by kernel_rfl)
theorem Good.froze {P : Program} {f : FuncId} {args : List AV} {r r2 : AV} {h1 h2 : List ABlk} (G : Good P f args [] r h1) (hr : freezeFrom 0 h1.length ⟨[r], h1⟩ = ⟨[r2], h2⟩) (hst : stays 0 r2 h2 = true) : Good P f args [] r2 [] :=
  G.turn fun X a w hX hs => by
    have h3 := hs.freezeFrom 0 h1.length
    rw [hr] at h3
    have h4 := h3.gc 1 0 (by rw [hX]; exact Nat.le_refl _)
    rw [stays_gc hst] at h4
    exact h4
theorem fields_good : Good Tryz.prog 164 [.c (.str reservedS)] [] (.c (.lst 1 false (reservedL.map fun s => [.str s]))) [] :=
  Good.froze fields_rows (h2 := [.gone, .gone]) (by kernel_rfl) (by kernel_rfl)
end Go.Ev
end
section
set_option linter.all false
set_option linter.all false
open Go Go.Proofs
namespace Go.Ev
def L1 : FuncId → List AV → List ABlk → Option (AV × List ABlk) := fun f args h => match f, args with
 | 164, [.c (.str s)] => if s = reservedS then some (.c (.lst 1 false (reservedL.map fun s => [.str s])), h) else none
 | f, args => L0 f args h
theorem L1_ok : CallOK Tryz.prog L1 := by
  intro f args h r h' hx
  unfold L1 at hx
  split at hx
  · split at hx
    · rename_i hs
      cases hx; subst hs
      exact Good.pure (h := h) fields_good rfl rfl
    · cases hx
  · exact L0_ok _ _ _ _ _ hx
abbrev cE (op : ByteArray) (k i : Int) (l : CV) : List CV := [.str op, .int .i64 k, .int .i64 i, .str sNone, .str sNone, .str sNone, l]
abbrev aE (op : ByteArray) (k i : Int) (l : CV) : AV := .agg [cS op, cI k, cI i, cS sNone, cS sNone, cS sNone, .c l]
abbrev cAt (i : Int) : List CV := cE sAt 2 i .nl
abbrev cN (n : Int) : List CV := cE sLit 2 n .nl
abbrev aAt (i : Int) : AV := aE sAt 2 i .nl
abbrev aN (n : Int) : AV := aE sLit 2 n .nl
abbrev cO (op : ByteArray) (a b : List CV) : List CV := cE op 0 0 (.lst 7 false [a, b])
abbrev aO (op : ByteArray) (a b : List CV) : AV := aE op 0 0 (.lst 7 false [a, b])
set_option maxRecDepth 100000 in
theorem mk_Int1 (n : Int) : Good Tryz.prog 23 [cI n] [] (.agg [cI 2, cI n, cS sNone]) [] := ref_Int1 n
set_option maxRecDepth 100000 in
theorem mk_lit (k i : Int) : Good Tryz.prog 17 [.agg [cI k, cI i, cS sNone]] [] (aE sLit k i .nl) [] := by
  refine Good.of_vmQ TT 4000 Tryz.func17 rfl rfl ?_
  unfold Tryz.f17
  simp only [go_sem, Option.getD_some, go_sem_proc]
set_option maxRecDepth 100000 in
theorem mk_at (i : Int) : Good Tryz.prog 18 [cI i] [] (aAt i) [] := by
  refine Good.of_vmQ TT 4000 Tryz.func18 rfl rfl ?_
  unfold Tryz.f18
  simp only [go_sem, Option.getD_some, go_sem_proc]
  (refine Cl.pure TT 4000 (mk_Int1 i) rfl rfl ?_; simp only [go_sem, Option.getD_some, go_sem_proc])
set_option maxRecDepth 100000 in
theorem mk_op (op : ByteArray) (l : List (List CV)) : Good Tryz.prog 20 [cS op, .c (.lst 7 false l)] [] (aE op 0 0 (.lst 7 false l)) [] := by
  refine Good.of_vmQ TT 4000 Tryz.func20 rfl rfl ?_
  unfold Tryz.f20
  simp only [go_sem, Option.getD_some, go_sem_proc]
set_option maxRecDepth 100000 in
theorem mk_num (n : Int) : Good Tryz.prog 22 [cI n] [] (aN n) [] := by
  refine Good.of_vmQ TT 4000 Tryz.func22 rfl rfl ?_
  unfold Tryz.f22
  simp only [go_sem, Option.getD_some, go_sem_proc]
  (refine Cl.pure TT 4000 (mk_Int1 n) rfl rfl ?_; simp only [go_sem, Option.getD_some, go_sem_proc])
  (refine Cl.pure TT 4000 (mk_lit 2 n) rfl rfl ?_; simp only [go_sem, Option.getD_some, go_sem_proc])
abbrev bAdd : ByteArray := ⟨#[43]⟩
abbrev bMul : ByteArray := ⟨#[42]⟩
abbrev bDiv : ByteArray := ⟨#[47]⟩
abbrev bEq : ByteArray := ⟨#[61]⟩
abbrev nE (n : Int) : Expr := litE ⟨2, n, sNone⟩
abbrev lvZ : Expr := opE bDiv [nE 1, nE 0]
abbrev lvM : Expr := opE bMul [nE 2, nE 3]
abbrev lvF : Expr := opE bAdd [atE 0, lvM]
set_option maxRecDepth 100000 in
theorem lv_A : Good Tryz.prog 11 [aO bAdd (cAt 0) (cN 1), .c (.lst 3 false [[.int .i64 2, .int .i64 2, .str sNone]])] [] (vals ⟨2, 3, sNone⟩ 0) [] := Good.reckoned mixed16 L1_ok (fuel := 1000) (by kernel_rfl)
set_option maxRecDepth 100000 in
theorem lv_N : Good Tryz.prog 11 [aO bEq (cO bDiv (cN 1) (cN 0)) (cE sLit 0 0 .nl), .c .nl] [] (vals zeroV 31) [] := Good.reckoned mixed16 L1_ok (fuel := 1000) (by kernel_rfl)
set_option maxRecDepth 100000 in
theorem lv_Z : EvalR [] lvZ zeroV 31 := Good.reckoned mixed16 L1_ok (fuel := 1000) (by kernel_rfl)
set_option maxRecDepth 100000 in
theorem lv_M : EvalR [] lvM ⟨2, 6, sNone⟩ 0 := Good.reckoned mixed16 L1_ok (fuel := 1000) (by kernel_rfl)
set_option maxRecDepth 100000 in
theorem lv_c1 : Good Tryz.prog 12 [aAt 1, cI 1] [] (cI 1) [] := Good.reckoned mixed16 L1_ok (fuel := 1000) (by kernel_rfl)
set_option maxRecDepth 100000 in
theorem lv_c2 : Good Tryz.prog 12 [aO bAdd (cAt 0) (cO bMul (cN 2) (cN 3)), cI 9223372036854775807] [] (cI 0) [] := Good.reckoned mixed16 L1_ok (fuel := 1000) (by kernel_rfl)
set_option maxRecDepth 100000 in
theorem lv_c3 : Good Tryz.prog 12 [aO bDiv (cN 1) (cN 0), cI 9223372036854775807] [] (cI 0) [] := Good.reckoned mixed16 L1_ok (fuel := 1000) (by kernel_rfl)
set_option maxRecDepth 100000 in
theorem lv_s1 : Good Tryz.prog 13 [(opE bAdd [atE 0, nE 6]).av, aO bAdd (cAt 0) (cN 6)] [] (cB true) [] := Good.reckoned mixed16 L1_ok (fuel := 1000) (by kernel_rfl)
set_option maxRecDepth 100000 in
theorem lv_s2 : Good Tryz.prog 13 [lvZ.av, aO bDiv (cN 1) (cN 0)] [] (cB true) [] := Good.reckoned mixed16 L1_ok (fuel := 1000) (by kernel_rfl)
set_option maxRecDepth 100000 in
theorem Fold_good (ev : Expr → Option Val) (e : Expr) (l : CV) (hl : CLe l (.lst 7 false (e.l.map Expr.cs))) (hc : Good Tryz.prog 12 [.agg [cS e.op, cI e.v.k, cI e.v.i, cS e.v.s, cS e.table, cS e.name, .c l], cI 9223372036854775807] [] (cI 0) []) (ha : Expr.All (FoldOK ev) e) : Good Tryz.prog 10 [.agg [cS e.op, cI e.v.k, cI e.v.i, cS e.v.s, cS e.table, cS e.name, .c l]] [] (foldE ev e).av [] := by
  have hle : Les [.agg [cS e.op, cI e.v.k, cI e.v.i, cS e.v.s, cS e.table, cS e.name, .c l]] [e.av] := .cons (Le.agg (.cons (Le.refl _) (.cons (Le.refl _) (.cons (Le.refl _) (.cons (Le.refl _) (.cons (Le.refl _) (.cons (Le.refl _) (.cons (Le.c hl) .nil)))))))) .nil
  refine Good.of_vmQ TT 4000 Tryz.func10 rfl rfl ?_
  unfold Tryz.f10
  simp only [go_sem, Option.getD_some, go_sem_proc]
  (refine Cl.pure TT 4000 (hc) rfl rfl ?_; simp only [go_sem, Option.getD_some, go_sem_proc])
  refine Cl.pureL TT 4000 (fold_good ev e ha) rfl hle rfl ?_
  simp only [go_sem, Option.getD_some, go_sem_proc]
def lvEv (e : Expr) : Option Val := if e.op.toList == bMul.toList then some ⟨2, 6, sNone⟩ else if e.op.toList == sLit.toList then some e.v else none
theorem lvEv_lit (v : Val) : Expr.All (FoldOK lvEv) (litE v) := by
  have hu : (litE v).uses [] = [] := by
    rw [Expr.uses_eq]
    have : ((litE v).op.toList == sAt.toList) = false := (bs_eq [108, 105, 116] [97, 116]).trans rfl
    rw [this]; rfl
  rw [Expr.All_iff]
  refine ⟨⟨by rw [hu]; exact List.nodup_nil, by rw [hu]; simp, by rw [hu]; simp, by simp [litE, Expr.l], fun _ => ⟨v, 0, Eval_lit [] (litE v) (beq_self_eq_true _), ?_⟩⟩, fun x hx => by cases hx⟩
  have h1 : ((litE v).op.toList == bMul.toList) = false := (bs_eq [108, 105, 116] [42]).trans rfl
  have h2 : ((litE v).op.toList == sLit.toList) = true := beq_self_eq_true _
  unfold lvEv; rw [h1, h2]; rfl
theorem lvEv_op {op : ByteArray} {l : List Expr} (ho : (op.toList == sAt.toList) = false) (hu : Expr.usesL l [] = [] ∨ Expr.usesL l [] = [0]) (hl : l.length ≤ 1000000) (hv : Expr.usesL l [] = [] → ∃ v f, EvalR [] (opE op l) v f ∧ lvEv (opE op l) = if f = 0 then some v else none) (hs : ∀ x, x ∈ l → Expr.All (FoldOK lvEv) x) : Expr.All (FoldOK lvEv) (opE op l) := by
  have e : (opE op l).uses [] = Expr.usesL l [] := by
    rw [Expr.uses_eq]
    have : ((opE op l).op.toList == sAt.toList) = false := ho
    rw [this]; rfl
  rw [Expr.All_iff]
  refine ⟨⟨?_, ?_, ?_, hl, fun h => hv (e ▸ h)⟩, hs⟩ <;> rw [e]
  · rcases hu with h | h <;> rw [h] <;> simp
  · rcases hu with h | h <;> rw [h] <;> simp [I64]
  · rcases hu with h | h <;> rw [h] <;> simp
theorem uses_lit (v : Val) (ns : List Int) : (litE v).uses ns = ns := by
  rw [Expr.uses_eq]
  have : ((litE v).op.toList == sAt.toList) = false := (bs_eq [108, 105, 116] [97, 116]).trans rfl
  rw [this]; rfl
theorem lv_okZ : Expr.All (FoldOK lvEv) lvZ := by
  refine lvEv_op ((bs_eq [47] [97, 116]).trans rfl) (.inl ?_) (by decide) (fun _ => ⟨_, _, lv_Z, ?_⟩) (fun x hx => ?_)
  · simp only [Expr.usesL, uses_lit]
  · have h1 : (bDiv.toList == bMul.toList) = false := (bs_eq [47] [42]).trans rfl
    have h2 : (bDiv.toList == sLit.toList) = false := (bs_eq [47] [108, 105, 116]).trans rfl
    show (if (bDiv.toList == bMul.toList) then _ else if (bDiv.toList == sLit.toList) then _ else _) = _
    rw [h1, h2]; rfl
  · simp only [List.mem_cons, List.not_mem_nil, or_false] at hx
    rcases hx with rfl | rfl <;> exact lvEv_lit _
theorem lv_okM : Expr.All (FoldOK lvEv) lvM := by
  refine lvEv_op ((bs_eq [42] [97, 116]).trans rfl) (.inl ?_) (by decide) (fun _ => ⟨_, _, lv_M, ?_⟩) (fun x hx => ?_)
  · simp only [Expr.usesL, uses_lit]
  · show (if (bMul.toList == bMul.toList) then _ else _) = _
    rw [beq_self_eq_true]; rfl
  · simp only [List.mem_cons, List.not_mem_nil, or_false] at hx
    rcases hx with rfl | rfl <;> exact lvEv_lit _
theorem uses_at (i : Int) : (atE i).uses [] = [i] := by
  rw [Expr.uses_eq]
  have : ((atE i).op.toList == sAt.toList) = true := beq_self_eq_true _
  rw [this]; rfl
theorem uses_M (ns : List Int) : lvM.uses ns = ns := by
  rw [Expr.uses_eq]
  have : (lvM.op.toList == sAt.toList) = false := (bs_eq [42] [97, 116]).trans rfl
  rw [this]
  show Expr.usesL [nE 2, nE 3] ns = ns
  simp only [Expr.usesL, uses_lit]
theorem lv_okF : Expr.All (FoldOK lvEv) lvF := by
  have hu : Expr.usesL [atE 0, lvM] [] = [0] := by simp only [Expr.usesL, uses_at, uses_M]
  refine lvEv_op ((bs_eq [43] [97, 116]).trans rfl) (.inr hu) (by decide) (fun h => by rw [hu] at h; cases h) (fun x hx => ?_)
  simp only [List.mem_cons, List.not_mem_nil, or_false] at hx
  rcases hx with rfl | rfl
  · rw [Expr.All_iff]
    refine ⟨⟨by rw [uses_at]; simp, by rw [uses_at]; simp [I64], by rw [uses_at]; simp, by simp [atE, Expr.l], fun h => by rw [uses_at] at h; cases h⟩, fun x hx => by cases hx⟩
  · exact lv_okM
theorem fold_lit (v : Val) : foldE lvEv (litE v) = litE v := by
  have h1 : ((litE v).op.toList == bMul.toList) = false := (bs_eq [108, 105, 116] [42]).trans rfl
  have h2 : ((litE v).op.toList == sLit.toList) = true := beq_self_eq_true _
  have h3 : lvEv (litE v) = some v := by unfold lvEv; rw [h1, h2]; rfl
  rw [foldE_eq, uses_lit, h3]; rfl
theorem fold_Z : foldE lvEv lvZ = lvZ := by
  have h0 : lvZ.uses [] = [] := by
    rw [Expr.uses_eq]
    have : (lvZ.op.toList == sAt.toList) = false := (bs_eq [47] [97, 116]).trans rfl
    rw [this]
    show Expr.usesL [nE 1, nE 0] [] = []
    simp only [Expr.usesL, uses_lit]
  have h1 : (lvZ.op.toList == bMul.toList) = false := (bs_eq [47] [42]).trans rfl
  have h2 : (lvZ.op.toList == sLit.toList) = false := (bs_eq [47] [108, 105, 116]).trans rfl
  have h3 : lvEv lvZ = none := by unfold lvEv; rw [h1, h2]; rfl
  rw [foldE_eq, h0, h3]
  show Expr.mk _ _ _ _ [foldE lvEv (nE 1), foldE lvEv (nE 0)] = _
  rw [fold_lit, fold_lit]; rfl
theorem fold_F : foldE lvEv lvF = opE bAdd [atE 0, nE 6] := by
  have h0 : lvF.uses [] = [0] := by
    rw [Expr.uses_eq]
    have : (lvF.op.toList == sAt.toList) = false := (bs_eq [43] [97, 116]).trans rfl
    rw [this]
    show Expr.usesL [atE 0, lvM] [] = [0]
    simp only [Expr.usesL, uses_at, uses_M]
  have h1 : (lvM.op.toList == bMul.toList) = true := beq_self_eq_true _
  have h3 : lvEv lvM = some ⟨2, 6, sNone⟩ := by unfold lvEv; rw [h1]; rfl
  have h4 : foldE lvEv lvM = nE 6 := by rw [foldE_eq, uses_M, h3]; rfl
  have h5 : foldE lvEv (atE 0) = atE 0 := by rw [foldE_eq, uses_at]; rfl
  rw [foldE_eq, h0]
  show Expr.mk _ _ _ _ [foldE lvEv (atE 0), foldE lvEv lvM] = _
  rw [h4, h5]; rfl
end Go.Ev
end
section
set_option linter.all false
set_option linter.all false
open Go Go.Proofs
namespace Go.Ev
theorem lv_F : Good Tryz.prog 10 [aO bAdd (cAt 0) (cO bMul (cN 2) (cN 3))] [] (opE bAdd [atE 0, nE 6]).av [] := by
  rw [← fold_F]
  refine Fold_good lvEv lvF _ (CLe.lst (fun h => h) (.cons (.cons (CLe.refl _) (.cons (CLe.refl _) (.cons (CLe.refl _) (.cons (CLe.refl _) (.cons (CLe.refl _) (.cons (CLe.refl _) (.cons (CLe.nl 7 false) .nil))))))) (.cons (.cons (CLe.refl _) (.cons (CLe.refl _) (.cons (CLe.refl _) (.cons (CLe.refl _) (.cons (CLe.refl _) (.cons (CLe.refl _) (.cons (CLe.lst (fun h => h) (.cons ?_ (.cons ?_ .nil))) .nil))))))) .nil))) lv_c2 lv_okF
  all_goals exact .cons (CLe.refl _) (.cons (CLe.refl _) (.cons (CLe.refl _) (.cons (CLe.refl _) (.cons (CLe.refl _) (.cons (CLe.refl _) (.cons (CLe.nl 7 false) .nil))))))
theorem lv_FZ : Good Tryz.prog 10 [aO bDiv (cN 1) (cN 0)] [] lvZ.av [] := by
  have := Fold_good lvEv lvZ (.lst 7 false [cN 1, cN 0]) (CLe.lst (fun h => h) (.cons ?_ (.cons ?_ .nil))) lv_c3 lv_okZ
  · rw [fold_Z] at this; exact this
  all_goals exact .cons (CLe.refl _) (.cons (CLe.refl _) (.cons (CLe.refl _) (.cons (CLe.refl _) (.cons (CLe.refl _) (.cons (CLe.refl _) (.cons (CLe.nl 7 false) .nil))))))
theorem pick_miss {l : List Entry} {f g : FuncId} {cs ds : List AV} {r : AV} (h : cs ≠ ds) : pick ((g, ds, r) :: l) f cs = pick l f cs := by simp [pick, h]
def opName : List AV → List UInt8
  | .agg (.c (.str s) :: _) :: _ => s.data.toList
  | _ => []
theorem lv_ne : [lvZ.av, aO bDiv (cN 1) (cN 0)] ≠ [(opE bAdd [atE 0, nE 6]).av, aO bAdd (cAt 0) (cN 6)] := fun h => absurd (congrArg opName h) (show ¬ [47] = [43] by decide)
set_option maxRecDepth 100000 in
set_option maxHeartbeats 4000000 in
theorem live10_good : Good Tryz.prog 7 [] [] (cB true) [] := by
  refine Good.of_vmQ TT 4000 Tryz.func7 rfl rfl ?_
  unfold Tryz.f7
  simp only [go_sem, Option.getD_some, go_sem_proc]
  (refine Cl.pure TT 4000 (mk_at 0) rfl rfl ?_; simp only [go_sem, Option.getD_some, go_sem_proc])
  (refine Cl.pure TT 4000 (mk_num 1) rfl rfl ?_; simp only [go_sem, Option.getD_some, go_sem_proc])
  (refine Cl.pure TT 4000 (mk_op bAdd [cAt 0, cN 1]) rfl rfl ?_; simp only [go_sem, Option.getD_some, go_sem_proc])
  (refine Cl.pure TT 4000 (mk_Int1 2) rfl rfl ?_; simp only [go_sem, Option.getD_some, go_sem_proc])
  (refine Cl.pure TT 4000 (lv_A) rfl rfl ?_; simp only [go_sem, Option.getD_some, go_sem_proc])
  (refine Cl.pure TT 4000 (mk_num 1) rfl rfl ?_; simp only [go_sem, Option.getD_some, go_sem_proc])
  (refine Cl.pure TT 4000 (mk_num 0) rfl rfl ?_; simp only [go_sem, Option.getD_some, go_sem_proc])
  (refine Cl.pure TT 4000 (mk_op bDiv [cN 1, cN 0]) rfl rfl ?_; simp only [go_sem, Option.getD_some, go_sem_proc])
  refine Dr.ofC TT (by kernel_rfl) [(17, [.agg [cI 0, cI 0, cS sNone]], aE sLit 0 0 .nl), (20, [cS bEq, .c (.lst 7 false [cO bDiv (cN 1) (cN 0), cE sLit 0 0 .nl])], aO bEq (cO bDiv (cN 1) (cN 0)) (cE sLit 0 0 .nl)),
    (11, [aO bEq (cO bDiv (cN 1) (cN 0)) (cE sLit 0 0 .nl), .c .nl], vals zeroV 31)] ⟨⟨mk_lit 0 0, rfl⟩, ⟨mk_op _ _, rfl⟩, ⟨lv_N, rfl⟩, trivial⟩ ?_
  simp only [go_sem, Option.getD_some, go_sem_proc]
  refine DEnd.of TT 4000 (memOK_of2 (by kernel_rfl)) ?_
  simp only [go_sem, Option.getD_some, go_sem_proc]
  (refine Cl.pure TT 4000 (mk_at 0) rfl rfl ?_; simp only [go_sem, Option.getD_some, go_sem_proc])
  (refine Cl.pure TT 4000 (mk_num 2) rfl rfl ?_; simp only [go_sem, Option.getD_some, go_sem_proc])
  (refine Cl.pure TT 4000 (mk_num 3) rfl rfl ?_; simp only [go_sem, Option.getD_some, go_sem_proc])
  (refine Cl.pure TT 4000 (mk_op bMul [cN 2, cN 3]) rfl rfl ?_; simp only [go_sem, Option.getD_some, go_sem_proc])
  (refine Cl.pure TT 4000 (mk_op bAdd [cAt 0, cO bMul (cN 2) (cN 3)]) rfl rfl ?_; simp only [go_sem, Option.getD_some, go_sem_proc])
  (refine Cl.pure TT 4000 (lv_F) rfl rfl ?_; simp only [go_sem, Option.getD_some, go_sem_proc])
  refine Dr.ofC TT (by kernel_rfl) [(23, [cI 3], .agg [cI 2, cI 3, cS sNone]), (18, [cI 0], aAt 0), (22, [cI 6], aN 6), (20, [cS bAdd, .c (.lst 7 false [cAt 0, cN 6])], aO bAdd (cAt 0) (cN 6)),
    (13, [(opE bAdd [atE 0, nE 6]).av, aO bAdd (cAt 0) (cN 6)], cB true), (10, [aO bDiv (cN 1) (cN 0)], lvZ.av), (13, [lvZ.av, aO bDiv (cN 1) (cN 0)], cB true),
    (18, [cI 1], aAt 1), (12, [aAt 1, cI 1], cI 1)]
    ⟨⟨mk_Int1 3, rfl⟩, ⟨mk_at 0, rfl⟩, ⟨mk_num 6, rfl⟩, ⟨mk_op _ _, rfl⟩, ⟨lv_s1, rfl⟩, ⟨lv_FZ, rfl⟩, ⟨lv_s2, rfl⟩, ⟨mk_at 1, rfl⟩, ⟨lv_c1, rfl⟩, trivial⟩ ?_
  have e1 : ∀ l r, pick ((13, [(opE bAdd [atE 0, nE 6]).av, aO bAdd (cAt 0) (cN 6)], r) :: l) 13 [lvZ.av, aO bDiv (cN 1) (cN 0)] = pick l 13 [lvZ.av, aO bDiv (cN 1) (cN 0)] := fun l r => pick_miss lv_ne
  simp only [Expr.av] at e1
  have e2 : ∀ l r, pick ((18, [cI 0], r) :: l) 18 [cI 1] = pick l 18 [cI 1] := fun l r => pick_miss (by simp)
  simp only [go_sem, e1, e2, Option.getD_some, go_sem_proc]
  refine DEnd.of TT 4000 (memOK_of2 (by kernel_rfl)) ?_
  simp only [go_sem, Option.getD_some, go_sem_proc]
end Go.Ev
end
