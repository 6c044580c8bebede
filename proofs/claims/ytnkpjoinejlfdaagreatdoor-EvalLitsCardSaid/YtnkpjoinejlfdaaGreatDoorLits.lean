/-  EvalLits: the law. -/
import Derived.Test.YtnkpjoinejlfdaaGreatDoorMk
import Derived.Test.YtnkpjoinejlfdaaGreatDoorWk
import Derived.Test.YtnkpjoinejlfdaaGreatDoorCo
import Derived.Test.YtnkpjoinejlfdaaGreatDoorFew
set_option linter.all false
open Go Go.Proofs
namespace Go.Ev
set_option maxRecDepth 100000 in
theorem big_none (r : List Val) (hs : ∀ v, v ∈ r → v.s.size ≤ 281474976710656) : Good Tryz.prog 8 [.c (rowC r), .c .nl] [] (cB (!decide (cnt [r] ≤ 600))) [] := by
  refine Good.of_vmQ TT 4000 Tryz.func8 rfl rfl ?_
  unfold Tryz.f8
  simp only [go_sem, Option.getD_some, Nat.reduceAdd, Nat.reduceBEq, Nat.reduceBNe, Nat.reduceMul, Nat.reduceSub, Nat.reduceEqDiff, Nat.reduceLT, Nat.reduceLeDiff, Int.reduceBEq, Int.reduceBNe, Int.reduceLT, Int.reduceLE, Int.reduceGT, Int.reduceGE, Int.reduceEq, Int.reduceAdd, Int.reduceSub, Int.reduceNeg, Int.reduceToNat, String.reduceEq, UInt8.reduceToNat, reduceCtorEq, ↓reduceIte]
  refine Lp.fit TT 4000 0 (Nat.le_refl _) (fun _ : Unit => 0) (fun _ => True)
    (fun _ => ⟨[.c (rowC r)] ++ List.replicate 7 .dead ++ [cI 0, cI 0] ++ List.replicate 16 .dead, []⟩) () trivial ?_ ?_
  · simp only [go_sem, Option.getD_some, Nat.reduceAdd, Nat.reduceBEq, Nat.reduceBNe, Nat.reduceMul, Nat.reduceSub, Nat.reduceEqDiff, Nat.reduceLT, Nat.reduceLeDiff, Int.reduceBEq, Int.reduceBNe, Int.reduceLT, Int.reduceLE, Int.reduceGT, Int.reduceGE, Int.reduceEq, Int.reduceAdd, Int.reduceSub, Int.reduceNeg, Int.reduceToNat, String.reduceEq, UInt8.reduceToNat, reduceCtorEq, ↓reduceIte]
  · rintro _ _
    simp only [go_sem, Option.getD_some, Nat.reduceAdd, Nat.reduceBEq, Nat.reduceBNe, Nat.reduceMul, Nat.reduceSub, Nat.reduceEqDiff, Nat.reduceLT, Nat.reduceLeDiff, Int.reduceBEq, Int.reduceBNe, Int.reduceLT, Int.reduceLE, Int.reduceGT, Int.reduceGE, Int.reduceEq, Int.reduceAdd, Int.reduceSub, Int.reduceNeg, Int.reduceToNat, String.reduceEq, UInt8.reduceToNat, reduceCtorEq, ↓reduceIte]
    refine Cl.pure TT 4000 (ref_Few [r] 600 (by omega) (by simp) (fun r' hr' v hv => by rw [List.mem_singleton] at hr'; exact hs v (hr' ▸ hv))) rfl rfl ?_
    simp only [go_sem, Option.getD_some, Nat.reduceAdd, Nat.reduceBEq, Nat.reduceBNe, Nat.reduceMul, Nat.reduceSub, Nat.reduceEqDiff, Nat.reduceLT, Nat.reduceLeDiff, Int.reduceBEq, Int.reduceBNe, Int.reduceLT, Int.reduceLE, Int.reduceGT, Int.reduceGE, Int.reduceEq, Int.reduceAdd, Int.reduceSub, Int.reduceNeg, Int.reduceToNat, String.reduceEq, UInt8.reduceToNat, reduceCtorEq, ↓reduceIte]

/-- What coalesce tells of two. -/
def coalV (x v : Val) : Val := if x.k ≠ 0 then x else if v.k ≠ 0 then v else x
theorem coal_idx (x v : Val) : [x, v][(max (idxOf (fun y => y.k != 0) [x, v]) 0).toNat]? = some (coalV x v) := by
  unfold coalV
  by_cases h : x.k = 0
  · by_cases h2 : v.k = 0
    · have : idxOf (fun y => y.k != 0) [x, v] = -1 := idxOf_none (by simp [h, h2])
      rw [this, show (max (-1 : Int) 0).toNat = 0 from rfl]; simp [h, h2]
    · have : idxOf (fun y => y.k != 0) [x, v] = 1 := idxOf_hit (j := 1) (x := v) rfl (by simpa using h2) (by simp [h])
      rw [this, show (max (1 : Int) 0).toNat = 1 from rfl]; simp [h, h2]
  · have : idxOf (fun y => y.k != 0) [x, v] = 0 := idxOf_hit (j := 0) (x := x) rfl (by simpa using h) (by simp)
    rw [this, show (max (0 : Int) 0).toNat = 0 from rfl]; simp [h]

set_option maxRecDepth 100000 in
set_option maxHeartbeats 4000000 in
theorem evalLits_good (L : Good Tryz.prog 7 [] [] (cB true) []) (r : List Val) (v : Val) (i : Int) (hr : ∀ x, x ∈ r → I64 x.i) (hv : I64 v.i) (hi : I64 i) (hs : ∀ x, x ∈ r → x.s.size ≤ 281474976710656) (hvs : v.s.size ≤ 281474976710656) :
    Good Tryz.prog 5 [.c (rowC r), v.av, cI i] [] (cB true) [] := by
  refine Good.of_vmQ TT 8000 Tryz.func5 rfl rfl ?_
  unfold Tryz.f5
  simp only [go_sem, Option.getD_some, Nat.reduceAdd, Nat.reduceBEq, Nat.reduceBNe, Nat.reduceMul, Nat.reduceSub, Nat.reduceEqDiff, Nat.reduceLT, Nat.reduceLeDiff, Int.reduceBEq, Int.reduceBNe, Int.reduceLT, Int.reduceLE, Int.reduceGT, Int.reduceGE, Int.reduceEq, Int.reduceAdd, Int.reduceSub, Int.reduceNeg, Int.reduceToNat, String.reduceEq, UInt8.reduceToNat, reduceCtorEq, ↓reduceIte]
  refine Cl.pure TT 8000 L rfl rfl ?_
  simp only [go_sem, Option.getD_some, Nat.reduceAdd, Nat.reduceBEq, Nat.reduceBNe, Nat.reduceMul, Nat.reduceSub, Nat.reduceEqDiff, Nat.reduceLT, Nat.reduceLeDiff, Int.reduceBEq, Int.reduceBNe, Int.reduceLT, Int.reduceLE, Int.reduceGT, Int.reduceGE, Int.reduceEq, Int.reduceAdd, Int.reduceSub, Int.reduceNeg, Int.reduceToNat, String.reduceEq, UInt8.reduceToNat, reduceCtorEq, ↓reduceIte]
  refine Cl.pure TT 8000 (big_none r hs) rfl rfl ?_
  by_cases c1 : cnt [r] ≤ 600
  case neg => simp only [go_sem, c1, Option.getD_some, Nat.reduceAdd, Nat.reduceBEq, Nat.reduceBNe, Nat.reduceMul, Nat.reduceSub, Nat.reduceEqDiff, Nat.reduceLT, Nat.reduceLeDiff, Int.reduceBEq, Int.reduceBNe, Int.reduceLT, Int.reduceLE, Int.reduceGT, Int.reduceGE, Int.reduceEq, Int.reduceAdd, Int.reduceSub, Int.reduceNeg, Int.reduceToNat, String.reduceEq, UInt8.reduceToNat, reduceCtorEq, ↓reduceIte]
  simp only [go_sem, c1, Option.getD_some, Nat.reduceAdd, Nat.reduceBEq, Nat.reduceBNe, Nat.reduceMul, Nat.reduceSub, Nat.reduceEqDiff, Nat.reduceLT, Nat.reduceLeDiff, Int.reduceBEq, Int.reduceBNe, Int.reduceLT, Int.reduceLE, Int.reduceGT, Int.reduceGE, Int.reduceEq, Int.reduceAdd, Int.reduceSub, Int.reduceNeg, Int.reduceToNat, String.reduceEq, UInt8.reduceToNat, reduceCtorEq, ↓reduceIte]
  refine Cl.pure TT 8000 (ref_CheckRow r) rfl rfl ?_
  by_cases c2 : checkRowS r = 0
  case neg =>
    have c2' : (checkRowS r != 0) = true := bne_iff_ne.2 c2
    simp only [go_sem, c2', Option.getD_some, Nat.reduceAdd, Nat.reduceBEq, Nat.reduceBNe, Nat.reduceMul, Nat.reduceSub, Nat.reduceEqDiff, Nat.reduceLT, Nat.reduceLeDiff, Int.reduceBEq, Int.reduceBNe, Int.reduceLT, Int.reduceLE, Int.reduceGT, Int.reduceGE, Int.reduceEq, Int.reduceAdd, Int.reduceSub, Int.reduceNeg, Int.reduceToNat, String.reduceEq, UInt8.reduceToNat, reduceCtorEq, ↓reduceIte]
  simp only [go_sem, c2, Option.getD_some, Nat.reduceAdd, Nat.reduceBEq, Nat.reduceBNe, Nat.reduceMul, Nat.reduceSub, Nat.reduceEqDiff, Nat.reduceLT, Nat.reduceLeDiff, Int.reduceBEq, Int.reduceBNe, Int.reduceLT, Int.reduceLE, Int.reduceGT, Int.reduceGE, Int.reduceEq, Int.reduceAdd, Int.reduceSub, Int.reduceNeg, Int.reduceToNat, String.reduceEq, UInt8.reduceToNat, reduceCtorEq, ↓reduceIte]
  refine Cl.pure TT 8000 (ref_Check v) rfl rfl ?_
  cases c3 : v.ok
  · simp only [go_sem, c3, Bool.false_eq_true, Option.getD_some, Nat.reduceAdd, Nat.reduceBEq, Nat.reduceBNe, Nat.reduceMul, Nat.reduceSub, Nat.reduceEqDiff, Nat.reduceLT, Nat.reduceLeDiff, Int.reduceBEq, Int.reduceBNe, Int.reduceLT, Int.reduceLE, Int.reduceGT, Int.reduceGE, Int.reduceEq, Int.reduceAdd, Int.reduceSub, Int.reduceNeg, Int.reduceToNat, String.reduceEq, UInt8.reduceToNat, reduceCtorEq, ↓reduceIte]
  simp only [go_sem, c3, Option.getD_some, Nat.reduceAdd, Nat.reduceBEq, Nat.reduceBNe, Nat.reduceMul, Nat.reduceSub, Nat.reduceEqDiff, Nat.reduceLT, Nat.reduceLeDiff, Int.reduceBEq, Int.reduceBNe, Int.reduceLT, Int.reduceLE, Int.reduceGT, Int.reduceGE, Int.reduceEq, Int.reduceAdd, Int.reduceSub, Int.reduceNeg, Int.reduceToNat, String.reduceEq, UInt8.reduceToNat, reduceCtorEq, ↓reduceIte]
  by_cases c4 : (v.s.size : Int) > 1000
  · simp only [go_sem, c4, Option.getD_some, Nat.reduceAdd, Nat.reduceBEq, Nat.reduceBNe, Nat.reduceMul, Nat.reduceSub, Nat.reduceEqDiff, Nat.reduceLT, Nat.reduceLeDiff, Int.reduceBEq, Int.reduceBNe, Int.reduceLT, Int.reduceLE, Int.reduceGT, Int.reduceGE, Int.reduceEq, Int.reduceAdd, Int.reduceSub, Int.reduceNeg, Int.reduceToNat, String.reduceEq, UInt8.reduceToNat, reduceCtorEq, ↓reduceIte]
  simp only [go_sem, c4, Option.getD_some, Nat.reduceAdd, Nat.reduceBEq, Nat.reduceBNe, Nat.reduceMul, Nat.reduceSub, Nat.reduceEqDiff, Nat.reduceLT, Nat.reduceLeDiff, Int.reduceBEq, Int.reduceBNe, Int.reduceLT, Int.reduceLE, Int.reduceGT, Int.reduceGE, Int.reduceEq, Int.reduceAdd, Int.reduceSub, Int.reduceNeg, Int.reduceToNat, String.reduceEq, UInt8.reduceToNat, reduceCtorEq, ↓reduceIte]
  refine Cl.pure TT 8000 (ref_Lit v) rfl rfl ?_
  simp only [go_sem, Option.getD_some, Nat.reduceAdd, Nat.reduceBEq, Nat.reduceBNe, Nat.reduceMul, Nat.reduceSub, Nat.reduceEqDiff, Nat.reduceLT, Nat.reduceLeDiff, Int.reduceBEq, Int.reduceBNe, Int.reduceLT, Int.reduceLE, Int.reduceGT, Int.reduceGE, Int.reduceEq, Int.reduceAdd, Int.reduceSub, Int.reduceNeg, Int.reduceToNat, String.reduceEq, UInt8.reduceToNat, reduceCtorEq, ↓reduceIte]
  refine Cl.pure TT 8000 (show EvalR r (litE v) v 0 from Eval_lit r (litE v) (beq_self_eq_true sLit.toList)) rfl rfl ?_
  cases c5 : ((r.length : Int) == 0)
  case true => simp only [go_sem, c5, Option.getD_some, Nat.reduceAdd, Nat.reduceBEq, Nat.reduceBNe, Nat.reduceMul, Nat.reduceSub, Nat.reduceEqDiff, Nat.reduceLT, Nat.reduceLeDiff, Int.reduceBEq, Int.reduceBNe, Int.reduceLT, Int.reduceLE, Int.reduceGT, Int.reduceGE, Int.reduceEq, Int.reduceAdd, Int.reduceSub, Int.reduceNeg, Int.reduceToNat, String.reduceEq, UInt8.reduceToNat, reduceCtorEq, ↓reduceIte]
  have h5 : r.length ≠ 0 := fun h => by rw [h] at c5; cases c5
  have h5' : ¬ (r.length : Int) = 0 := by omega
  have hb : r.length ≤ 600 := by
    have h6 : ∀ l : List Val, l.length ≤ cntR l := fun l => by
      induction l with
      | nil => simp [cntR]
      | cons x l ih => simp only [cntR, List.map_cons, List.sum_cons, List.length_cons] at ih ⊢; omega
    have := h6 r
    simp only [cnt, List.map_cons, List.map_nil, List.sum_cons, List.sum_nil] at c1
    omega
  simp only [go_sem, c5, h5', Option.getD_some, Nat.reduceAdd, Nat.reduceBEq, Nat.reduceBNe, Nat.reduceMul, Nat.reduceSub, Nat.reduceEqDiff, Nat.reduceLT, Nat.reduceLeDiff, Int.reduceBEq, Int.reduceBNe, Int.reduceLT, Int.reduceLE, Int.reduceGT, Int.reduceGE, Int.reduceEq, Int.reduceAdd, Int.reduceSub, Int.reduceNeg, Int.reduceToNat, String.reduceEq, UInt8.reduceToNat, reduceCtorEq, ↓reduceIte]
  obtain ⟨j, hj, ej⟩ : ∃ j : Nat, j < r.length ∧ (IntKind.wrap .i64 (i.tmod r.length + r.length)).tmod r.length = j := by
    have b1 := Int.tmod_lt_of_pos i (show (0 : Int) < r.length by omega)
    have b2 := Int.lt_tmod_of_pos i (show (0 : Int) < r.length by omega)
    rw [wrap_id (by omega) (by omega)]
    have b3 := Int.tmod_lt_of_pos (i.tmod r.length + r.length) (show (0 : Int) < r.length by omega)
    have b4 : 0 ≤ (i.tmod r.length + r.length).tmod r.length := Int.tmod_nonneg _ (by omega)
    exact ⟨((i.tmod r.length + r.length).tmod r.length).toNat, by omega, by omega⟩
  rw [ej]
  obtain ⟨x, hx, hmem, _, _⟩ := getS hj
  have ho1 : (sAt.toList == sLit.toList) = false := (bs_eq [97, 116] [108, 105, 116]).trans rfl
  have ho2 : (sCall.toList == sLit.toList) = false := (bs_eq [99, 97, 108, 108] [108, 105, 116]).trans rfl
  have ho3 : (sCall.toList == sAt.toList) = false := (bs_eq [99, 97, 108, 108] [97, 116]).trans rfl
  have ho4 : (sIsnull.toList == sLit.toList) = false := (bs_eq [105, 115, 110, 117, 108, 108] [108, 105, 116]).trans rfl
  have ho5 : (sIsnull.toList == sAt.toList) = false := (bs_eq [105, 115, 110, 117, 108, 108] [97, 116]).trans rfl
  have ho6 : (sIsnull.toList == sCall.toList) = false := (bs_eq [105, 115, 110, 117, 108, 108] [99, 97, 108, 108]).trans rfl
  have A : EvalR r (atE j) x 0 := Eval_at r (atE j) ho1 (beq_self_eq_true sAt.toList) (j := j) rfl hx
  have B : EvalR r (litE v) v 0 := Eval_lit r (litE v) (beq_self_eq_true sLit.toList)
  have hxok : x.ok = true := by
    cases hk : x.ok
    · exfalso
      have : r.any (fun v => !v.ok) = true := List.any_eq_true.2 ⟨x, hmem, by rw [hk]; rfl⟩
      rw [checkRowS, if_pos this] at c2; cases c2
    · rfl
  have C : EvalR r (callE sCoalesce [atE j, litE v]) (coalV x v) 0 := Eval_call r (callE sCoalesce [atE j, litE v]) ho2 ho3 (beq_self_eq_true sCall.toList) (by simp [callE, Expr.l]) [x, v] rfl (fun k y u hy hu => by
      match k, hy, hu with
      | 0, hy, hu => cases hy; cases hu; exact A
      | 1, hy, hu => cases hy; cases hu; exact B)
    (Call_coalesce [x, v] (fun y hy => by
      simp at hy
      rcases hy with h | h
      · rw [h]; exact hr _ hmem
      · rw [h]; exact hv) (by simp [hxok, c3]) (by simp) (coal_idx x v))
  have D : EvalR r (opE sIsnull [atE j]) (truthV ((x.k == 0) == (sIsnull.toList == sIsnull.toList))) 0 := Eval_work r (opE sIsnull [atE j]) ho4 ho5 ho6 (by simp [opE, Expr.l]) [x] rfl (fun k y u hy hu => by
      match k, hy, hu with
      | 0, hy, hu => cases hy; cases hu; exact A) works_isnull (by simp [opE, Expr.l]) (by simp [opE, Expr.l])
    (one1_good 54 [.pt [.str sIsnull]] [x] x rfl (works3_good x sIsnull))
  (refine Cl.pure TT 4000 (ref_At1 j) rfl rfl ?_; simp only [go_sem, Option.getD_some, Nat.reduceAdd, Nat.reduceBEq, Nat.reduceBNe, Nat.reduceMul, Nat.reduceSub, Nat.reduceEqDiff, Nat.reduceLT, Nat.reduceLeDiff, Int.reduceBEq, Int.reduceBNe, Int.reduceLT, Int.reduceLE, Int.reduceGT, Int.reduceGE, Int.reduceEq, Int.reduceAdd, Int.reduceSub, Int.reduceNeg, Int.reduceToNat, String.reduceEq, UInt8.reduceToNat, reduceCtorEq, ↓reduceIte])
  (refine Cl.pure TT 4000 (A) rfl rfl ?_; simp only [go_sem, Option.getD_some, Nat.reduceAdd, Nat.reduceBEq, Nat.reduceBNe, Nat.reduceMul, Nat.reduceSub, Nat.reduceEqDiff, Nat.reduceLT, Nat.reduceLeDiff, Int.reduceBEq, Int.reduceBNe, Int.reduceLT, Int.reduceLE, Int.reduceGT, Int.reduceGE, Int.reduceEq, Int.reduceAdd, Int.reduceSub, Int.reduceNeg, Int.reduceToNat, String.reduceEq, UInt8.reduceToNat, reduceCtorEq, ↓reduceIte])
  refine Dr.ofC TT (by kernel_rfl) [(18, [cI j], (atE j).av), (17, [v.av], (litE v).av), (19, [cS sCoalesce, .c (.lst 7 false ([atE j, litE v].map Expr.cs))], (callE sCoalesce [atE j, litE v]).av), (11, [(callE sCoalesce [atE j, litE v]).av, .c (rowC r)], vals (coalV x v) 0)]
    ⟨⟨ref_At1 _, rfl⟩, ⟨ref_Lit _, rfl⟩, ⟨ref_Call1 _ _, rfl⟩, ⟨C, rfl⟩, trivial⟩ ?_
  simp only [go_sem, Option.getD_some, Nat.reduceAdd, Nat.reduceBEq, Nat.reduceBNe, Nat.reduceMul, Nat.reduceSub, Nat.reduceEqDiff, Nat.reduceLT, Nat.reduceLeDiff, Int.reduceBEq, Int.reduceBNe, Int.reduceLT, Int.reduceLE, Int.reduceGT, Int.reduceGE, Int.reduceEq, Int.reduceAdd, Int.reduceSub, Int.reduceNeg, Int.reduceToNat, String.reduceEq, UInt8.reduceToNat, reduceCtorEq, ↓reduceIte]
  refine DEnd.of TT 4000 (memOK_of2 (by kernel_rfl)) ?_
  simp only [go_sem, Option.getD_some, Nat.reduceAdd, Nat.reduceBEq, Nat.reduceBNe, Nat.reduceMul, Nat.reduceSub, Nat.reduceEqDiff, Nat.reduceLT, Nat.reduceLeDiff, Int.reduceBEq, Int.reduceBNe, Int.reduceLT, Int.reduceLE, Int.reduceGT, Int.reduceGE, Int.reduceEq, Int.reduceAdd, Int.reduceSub, Int.reduceNeg, Int.reduceToNat, String.reduceEq, UInt8.reduceToNat, reduceCtorEq, ↓reduceIte]
  (refine Cl.pure TT 4000 (ref_At1 j) rfl rfl ?_; simp only [go_sem, Option.getD_some, Nat.reduceAdd, Nat.reduceBEq, Nat.reduceBNe, Nat.reduceMul, Nat.reduceSub, Nat.reduceEqDiff, Nat.reduceLT, Nat.reduceLeDiff, Int.reduceBEq, Int.reduceBNe, Int.reduceLT, Int.reduceLE, Int.reduceGT, Int.reduceGE, Int.reduceEq, Int.reduceAdd, Int.reduceSub, Int.reduceNeg, Int.reduceToNat, String.reduceEq, UInt8.reduceToNat, reduceCtorEq, ↓reduceIte])
  refine Cl.pure TT 8000 (ref_Op1 sIsnull [atE j]) rfl rfl ?_
  simp only [go_sem, Option.getD_some, Nat.reduceAdd, Nat.reduceBEq, Nat.reduceBNe, Nat.reduceMul, Nat.reduceSub, Nat.reduceEqDiff, Nat.reduceLT, Nat.reduceLeDiff, Int.reduceBEq, Int.reduceBNe, Int.reduceLT, Int.reduceLE, Int.reduceGT, Int.reduceGE, Int.reduceEq, Int.reduceAdd, Int.reduceSub, Int.reduceNeg, Int.reduceToNat, String.reduceEq, UInt8.reduceToNat, reduceCtorEq, ↓reduceIte]
  (refine Cl.pure TT 4000 (D) rfl rfl ?_; simp only [go_sem, Option.getD_some, Nat.reduceAdd, Nat.reduceBEq, Nat.reduceBNe, Nat.reduceMul, Nat.reduceSub, Nat.reduceEqDiff, Nat.reduceLT, Nat.reduceLeDiff, Int.reduceBEq, Int.reduceBNe, Int.reduceLT, Int.reduceLE, Int.reduceGT, Int.reduceGE, Int.reduceEq, Int.reduceAdd, Int.reduceSub, Int.reduceNeg, Int.reduceToNat, String.reduceEq, UInt8.reduceToNat, reduceCtorEq, ↓reduceIte])
  have hz : coalV x v = x ∨ (coalV x v = v ∧ (x.k == 0) = true) := by
    unfold coalV
    by_cases h1 : x.k = 0
    · by_cases h2 : v.k = 0
      · exact .inl (by rw [if_neg (by simp [h1]), if_neg (by simp [h2])])
      · exact .inr ⟨by rw [if_neg (by simp [h1]), if_pos h2], by simp [h1]⟩
    · exact .inl (by rw [if_pos h1])
  generalize coalV x v = z at hz
  clear C D A B
  cases hk : (x.k == 0)
  all_goals rcases hz with rfl | ⟨rfl, hz⟩
  · refine Dr.of TT (by kernel_rfl) [] trivial ?_
    simp only [go_sem, hk, hx, hj, truthV, Int.ofNat_lt, Option.getD_some, Nat.reduceAdd, Nat.reduceBEq, Nat.reduceBNe, Nat.reduceMul, Nat.reduceSub, Nat.reduceEqDiff, Nat.reduceLT, Nat.reduceLeDiff, Int.reduceBEq, Int.reduceBNe, Int.reduceLT, Int.reduceLE, Int.reduceGT, Int.reduceGE, Int.reduceEq, Int.reduceAdd, Int.reduceSub, Int.reduceNeg, Int.reduceToNat, String.reduceEq, UInt8.reduceToNat, reduceCtorEq, ↓reduceIte]
    refine DEnd.of TT 8000 (memOK_quiet rfl) ?_
    simp only [go_sem, hk, Option.getD_some, Nat.reduceAdd, Nat.reduceBEq, Nat.reduceBNe, Nat.reduceMul, Nat.reduceSub, Nat.reduceEqDiff, Nat.reduceLT, Nat.reduceLeDiff, Int.reduceBEq, Int.reduceBNe, Int.reduceLT, Int.reduceLE, Int.reduceGT, Int.reduceGE, Int.reduceEq, Int.reduceAdd, Int.reduceSub, Int.reduceNeg, Int.reduceToNat, String.reduceEq, UInt8.reduceToNat, reduceCtorEq, ↓reduceIte]
  · rw [hk] at hz; cases hz
  · refine Dr.of TT (by kernel_rfl) [] trivial ?_
    simp only [go_sem, hk, hx, hj, truthV, Int.ofNat_lt, Option.getD_some, Nat.reduceAdd, Nat.reduceBEq, Nat.reduceBNe, Nat.reduceMul, Nat.reduceSub, Nat.reduceEqDiff, Nat.reduceLT, Nat.reduceLeDiff, Int.reduceBEq, Int.reduceBNe, Int.reduceLT, Int.reduceLE, Int.reduceGT, Int.reduceGE, Int.reduceEq, Int.reduceAdd, Int.reduceSub, Int.reduceNeg, Int.reduceToNat, String.reduceEq, UInt8.reduceToNat, reduceCtorEq, ↓reduceIte]
    refine DEnd.of TT 8000 (memOK_quiet rfl) ?_
    simp only [go_sem, hk, Option.getD_some, Nat.reduceAdd, Nat.reduceBEq, Nat.reduceBNe, Nat.reduceMul, Nat.reduceSub, Nat.reduceEqDiff, Nat.reduceLT, Nat.reduceLeDiff, Int.reduceBEq, Int.reduceBNe, Int.reduceLT, Int.reduceLE, Int.reduceGT, Int.reduceGE, Int.reduceEq, Int.reduceAdd, Int.reduceSub, Int.reduceNeg, Int.reduceToNat, String.reduceEq, UInt8.reduceToNat, reduceCtorEq, ↓reduceIte]
  · cases hb2 : (z.k == x.k && (z.i == x.i && z.s.toList == x.s.toList))
    · refine Dr.of TT (by kernel_rfl) [] trivial ?_
      simp only [go_sem, hk, hx, hj, truthV, Int.ofNat_lt, hb2, Option.getD_some, Nat.reduceAdd, Nat.reduceBEq, Nat.reduceBNe, Nat.reduceMul, Nat.reduceSub, Nat.reduceEqDiff, Nat.reduceLT, Nat.reduceLeDiff, Int.reduceBEq, Int.reduceBNe, Int.reduceLT, Int.reduceLE, Int.reduceGT, Int.reduceGE, Int.reduceEq, Int.reduceAdd, Int.reduceSub, Int.reduceNeg, Int.reduceToNat, String.reduceEq, UInt8.reduceToNat, reduceCtorEq, ↓reduceIte]
      refine DEnd.of TT 8000 (memOK_quiet rfl) ?_
      simp only [go_sem, hk, Option.getD_some, Nat.reduceAdd, Nat.reduceBEq, Nat.reduceBNe, Nat.reduceMul, Nat.reduceSub, Nat.reduceEqDiff, Nat.reduceLT, Nat.reduceLeDiff, Int.reduceBEq, Int.reduceBNe, Int.reduceLT, Int.reduceLE, Int.reduceGT, Int.reduceGE, Int.reduceEq, Int.reduceAdd, Int.reduceSub, Int.reduceNeg, Int.reduceToNat, String.reduceEq, UInt8.reduceToNat, reduceCtorEq, ↓reduceIte]
    · refine Dr.of TT (by kernel_rfl) [] trivial ?_
      simp only [go_sem, hk, hx, hj, truthV, Int.ofNat_lt, hb2, Option.getD_some, Nat.reduceAdd, Nat.reduceBEq, Nat.reduceBNe, Nat.reduceMul, Nat.reduceSub, Nat.reduceEqDiff, Nat.reduceLT, Nat.reduceLeDiff, Int.reduceBEq, Int.reduceBNe, Int.reduceLT, Int.reduceLE, Int.reduceGT, Int.reduceGE, Int.reduceEq, Int.reduceAdd, Int.reduceSub, Int.reduceNeg, Int.reduceToNat, String.reduceEq, UInt8.reduceToNat, reduceCtorEq, ↓reduceIte]
      refine DEnd.of TT 8000 (memOK_quiet rfl) ?_
      simp only [go_sem, hk, Option.getD_some, Nat.reduceAdd, Nat.reduceBEq, Nat.reduceBNe, Nat.reduceMul, Nat.reduceSub, Nat.reduceEqDiff, Nat.reduceLT, Nat.reduceLeDiff, Int.reduceBEq, Int.reduceBNe, Int.reduceLT, Int.reduceLE, Int.reduceGT, Int.reduceGE, Int.reduceEq, Int.reduceAdd, Int.reduceSub, Int.reduceNeg, Int.reduceToNat, String.reduceEq, UInt8.reduceToNat, reduceCtorEq, ↓reduceIte]
end Go.Ev
