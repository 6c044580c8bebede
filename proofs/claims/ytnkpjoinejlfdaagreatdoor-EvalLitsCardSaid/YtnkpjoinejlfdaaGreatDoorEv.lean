/-  eval.Eval: the value of an expression, out of its parts' values. -/
import Derived.Test.YtnkpjoinejlfdaaGreatDoorS2
set_option linter.all false
open Go Go.Proofs
namespace Go.Ev
inductive Expr where
  | mk (op : ByteArray) (v : Val) (table name : ByteArray) (l : List Expr)
def Expr.op : Expr → ByteArray | .mk op _ _ _ _ => op
def Expr.v : Expr → Val | .mk _ v _ _ _ => v
def Expr.table : Expr → ByteArray | .mk _ _ t _ _ => t
def Expr.name : Expr → ByteArray | .mk _ _ _ n _ => n
def Expr.l : Expr → List Expr | .mk _ _ _ _ l => l
mutual
def Expr.cs : Expr → List CV
  | .mk op v t n l => [.str op, .int .i64 v.k, .int .i64 v.i, .str v.s, .str t, .str n, .lst 7 false (Expr.csL l)]
def Expr.csL : List Expr → List (List CV)
  | [] => []
  | e :: l => e.cs :: Expr.csL l
end
theorem Expr.csL_map : ∀ l : List Expr, Expr.csL l = l.map Expr.cs
  | [] => rfl
  | e :: l => by simp [Expr.csL, Expr.csL_map l]
theorem Expr.cs_eq (e : Expr) : e.cs = [.str e.op, .int .i64 e.v.k, .int .i64 e.v.i, .str e.v.s, .str e.table, .str e.name, .lst 7 false (e.l.map Expr.cs)] := by
  cases e; simp [Expr.cs, Expr.csL_map, Expr.op, Expr.v, Expr.table, Expr.name, Expr.l]
def Expr.av (e : Expr) : AV := .agg [cS e.op, cI e.v.k, cI e.v.i, cS e.v.s, cS e.table, cS e.name, .c (.lst 7 false (e.l.map Expr.cs))]
theorem Expr.op_mk {op v t n l} : (Expr.mk op v t n l).op = op := rfl
theorem Expr.v_mk {op v t n l} : (Expr.mk op v t n l).v = v := rfl
theorem Expr.table_mk {op v t n l} : (Expr.mk op v t n l).table = t := rfl
theorem Expr.name_mk {op v t n l} : (Expr.mk op v t n l).name = n := rfl
theorem Expr.l_mk {op v t n l} : (Expr.mk op v t n l).l = l := rfl
attribute [go_sem] Expr.cs_eq Expr.av Expr.op_mk Expr.v_mk Expr.table_mk Expr.name_mk Expr.l_mk
abbrev sLit : ByteArray := ⟨#[108, 105, 116]⟩
abbrev sAt : ByteArray := ⟨#[97, 116]⟩
abbrev sCall : ByteArray := ⟨#[99, 97, 108, 108]⟩
abbrev vals (v : Val) (e : Int) : AV := .tup [v.av, cI e]
def zeroV : Val := ⟨0, 0, ⟨#[]⟩⟩

/-- The value of an expression of a row. -/
abbrev EvalR (r : List Val) (e : Expr) (v : Val) (f : Int) : Prop := Good Tryz.prog 11 [e.av, .c (rowC r)] [] (vals v f) []

set_option maxRecDepth 100000 in
theorem Eval_lit (r : List Val) (e : Expr) (h : (e.op.toList == sLit.toList) = true) : EvalR r e e.v 0 := by
  refine Good.of_vmQ TT 4000 Tryz.func11 rfl rfl ?_
  unfold Tryz.f11
  simp only [go_sem, h, Option.getD_some, Nat.reduceAdd, Nat.reduceBEq, Nat.reduceBNe, Nat.reduceMul, Nat.reduceSub, Nat.reduceEqDiff, Nat.reduceLT, Nat.reduceLeDiff, Int.reduceBEq, Int.reduceBNe, Int.reduceLT, Int.reduceLE, Int.reduceGT, Int.reduceGE, Int.reduceEq, Int.reduceAdd, Int.reduceSub, Int.reduceNeg, Int.reduceToNat, String.reduceEq, UInt8.reduceToNat, reduceCtorEq, ↓reduceIte]
  exact Le.refl _

set_option maxRecDepth 100000 in
theorem Eval_at (r : List Val) (e : Expr) (h : (e.op.toList == sLit.toList) = false) (h2 : (e.op.toList == sAt.toList) = true) {x : Val} {j : Nat} (hj : e.v.i = j) (hx : r[j]? = some x) : EvalR r e x 0 := by
  have hlt := (List.getElem?_eq_some_iff.1 hx).1
  have h3 : ¬ ((j : Int) < 0) := by omega
  have h4 : ¬ (r.length ≤ j) := by omega
  refine Good.of_vmQ TT 4000 Tryz.func11 rfl rfl ?_
  unfold Tryz.f11
  simp only [go_sem, h, h2, hj, h3, hx, hlt, ge_iff_le, h4, Option.getD_some, Nat.reduceAdd, Nat.reduceBEq, Nat.reduceBNe, Nat.reduceMul, Nat.reduceSub, Nat.reduceEqDiff, Nat.reduceLT, Nat.reduceLeDiff, Int.reduceBEq, Int.reduceBNe, Int.reduceLT, Int.reduceLE, Int.reduceGT, Int.reduceGE, Int.reduceEq, Int.reduceAdd, Int.reduceSub, Int.reduceNeg, Int.reduceToNat, String.reduceEq, UInt8.reduceToNat, reduceCtorEq, ↓reduceIte]
  exact Le.refl _

def fillX (vs : List Val) (n j : Nat) : List (List CV) := (vs.take j).map Val.cs ++ List.replicate (n - j) [.int .i64 0, .int .i64 0, .str ⟨#[]⟩]
theorem fillX_len {vs : List Val} {n j : Nat} (hn : vs.length = n) (hj : j ≤ n) : (fillX vs n j).length = n := by simp [fillX]; omega
theorem fillX_get {vs : List Val} {n j : Nat} (hn : vs.length = n) (hj : j < n) : (fillX vs n j)[j]? = some [.int .i64 0, .int .i64 0, .str ⟨#[]⟩] := by
  unfold fillX
  rw [List.getElem?_append_right (by simp; omega), List.getElem?_replicate, if_pos (by simp; omega)]
theorem fillX_set {vs : List Val} {n j : Nat} {v : Val} (hn : vs.length = n) (hj : j < n) (hv : vs[j]? = some v) : (fillX vs n j).set j [.int .i64 v.k, .int .i64 v.i, .str v.s] = fillX vs n (j + 1) := by
  unfold fillX
  have h1 : vs.take (j + 1) = vs.take j ++ [v] := by
    obtain ⟨h, rfl⟩ := List.getElem?_eq_some_iff.1 hv
    exact (List.take_append_getElem h).symm
  obtain ⟨m, hm⟩ : ∃ m, n - j = m + 1 := ⟨n - j - 1, by omega⟩
  rw [h1, hm, show n - (j + 1) = m by omega, List.set_append_right _ _ (by simp; omega)]
  have : j - (List.map Val.cs (List.take j vs)).length = 0 := by simp; omega
  rw [this]
  simp [List.replicate_succ, Val.cs]

set_option maxRecDepth 100000 in
theorem Eval_call (r : List Val) (e : Expr) (h : (e.op.toList == sLit.toList) = false) (h2 : (e.op.toList == sAt.toList) = false) (h3 : (e.op.toList == sCall.toList) = true) (hb : e.l.length ≤ 1000) (vs : List Val) (hn : vs.length = e.l.length)
    (hp : ∀ (j : Nat) x v, e.l[j]? = some x → vs[j]? = some v → EvalR r x v 0) {res : Val} {f : Int} (hc : Good Tryz.prog 29 [cS e.name, .c (rowC vs)] [] (vals res f) []) : EvalR r e res f := by
  refine Good.of_vmQ TT 4000 Tryz.func11 rfl rfl ?_
  unfold Tryz.f11
  simp only [go_sem, h, h2, Option.getD_some, Nat.reduceAdd, Nat.reduceBEq, Nat.reduceBNe, Nat.reduceMul, Nat.reduceSub, Nat.reduceEqDiff, Nat.reduceLT, Nat.reduceLeDiff, Int.reduceBEq, Int.reduceBNe, Int.reduceLT, Int.reduceLE, Int.reduceGT, Int.reduceGE, Int.reduceEq, Int.reduceAdd, Int.reduceSub, Int.reduceNeg, Int.reduceToNat, String.reduceEq, UInt8.reduceToNat, reduceCtorEq, ↓reduceIte]
  refine ⟨⟨by omega, by omega⟩, ?_⟩
  refine Lp.fit TT 4000 3 (Nat.zero_le _) (fun j : Nat => e.l.length - j) (fun j => j ≤ e.l.length)
    (fun j => ⟨[.dead, .c (rowC r), .ptr 0 0, .dead, .ptr 1 0, .dead, .sl 2 0 e.l.length] ++ List.replicate 38 .dead ++ [.c (.lst 7 false (e.l.map Expr.cs)), cI e.l.length, cI j] ++ List.replicate 57 .dead,
      [.box [cS e.op, cI e.v.k, cI e.v.i, cS e.v.s, cS e.table, cS e.name, .c (.lst 7 false (e.l.map Expr.cs))], .box [cI 0, cI 0, cS ⟨#[]⟩], .rows 3 23 (fillX vs e.l.length j)]⟩) 0 (Nat.zero_le _) ?_ ?_
  · simp only [go_sem, Option.getD_some, Nat.reduceAdd, Nat.reduceBEq, Nat.reduceBNe, Nat.reduceMul, Nat.reduceSub, Nat.reduceEqDiff, Nat.reduceLT, Nat.reduceLeDiff, Int.reduceBEq, Int.reduceBNe, Int.reduceLT, Int.reduceLE, Int.reduceGT, Int.reduceGE, Int.reduceEq, Int.reduceAdd, Int.reduceSub, Int.reduceNeg, Int.reduceToNat, String.reduceEq, UInt8.reduceToNat, reduceCtorEq, ↓reduceIte]
    rw [show fillX vs e.l.length 0 = List.replicate e.l.length [.int .i64 0, .int .i64 0, .str ⟨#[]⟩] by simp [fillX]]
  · rintro j i1
    rcases Nat.lt_or_ge j e.l.length with hlt | hge
    · obtain ⟨x, hx, hm, ht, hd⟩ := getS hlt
      have hw := wrap_succ (j := j) (by omega)
      have hv := List.getElem?_eq_getElem (l := vs) (i := j) (by omega)
      generalize vs[j]'(by omega) = v at hv
      have hg := fillX_get hn hlt
      have hs := fillX_set hn hlt hv
      simp only [go_sem, hlt, hx, Option.getD_some, Nat.reduceAdd, Nat.reduceBEq, Nat.reduceBNe, Nat.reduceMul, Nat.reduceSub, Nat.reduceEqDiff, Nat.reduceLT, Nat.reduceLeDiff, Int.reduceBEq, Int.reduceBNe, Int.reduceLT, Int.reduceLE, Int.reduceGT, Int.reduceGE, Int.reduceEq, Int.reduceAdd, Int.reduceSub, Int.reduceNeg, Int.reduceToNat, String.reduceEq, UInt8.reduceToNat, reduceCtorEq, ↓reduceIte]
      (refine Cl.pure TT 4000 (hp j x v hx hv) rfl rfl ?_; simp only [go_sem, hlt, hw, hg, hs, Nat.zero_add, Option.getD_some, Nat.reduceAdd, Nat.reduceBEq, Nat.reduceBNe, Nat.reduceMul, Nat.reduceSub, Nat.reduceEqDiff, Nat.reduceLT, Nat.reduceLeDiff, Int.reduceBEq, Int.reduceBNe, Int.reduceLT, Int.reduceLE, Int.reduceGT, Int.reduceGE, Int.reduceEq, Int.reduceAdd, Int.reduceSub, Int.reduceNeg, Int.reduceToNat, String.reduceEq, UInt8.reduceToNat, reduceCtorEq, ↓reduceIte])
      exact ⟨j + 1, by omega, by omega, by simp only [go_sem, Option.getD_some, Nat.reduceAdd, Nat.reduceBEq, Nat.reduceBNe, Nat.reduceMul, Nat.reduceSub, Nat.reduceEqDiff, Nat.reduceLT, Nat.reduceLeDiff, Int.reduceBEq, Int.reduceBNe, Int.reduceLT, Int.reduceLE, Int.reduceGT, Int.reduceGE, Int.reduceEq, Int.reduceAdd, Int.reduceSub, Int.reduceNeg, Int.reduceToNat, String.reduceEq, UInt8.reduceToNat, reduceCtorEq, ↓reduceIte]⟩
    · have : j = e.l.length := by omega
      subst this
      have hf : fillX vs e.l.length e.l.length = vs.map Val.cs := by simp [fillX, ← hn]
      have hk : List.take e.l.length (vs.map Val.cs) = vs.map Val.cs := List.take_of_length_le (by simp [hn])
      simp only [go_sem, Nat.lt_irrefl, h3, hf, Option.getD_some, Nat.reduceAdd, Nat.reduceBEq, Nat.reduceBNe, Nat.reduceMul, Nat.reduceSub, Nat.reduceEqDiff, Nat.reduceLT, Nat.reduceLeDiff, Int.reduceBEq, Int.reduceBNe, Int.reduceLT, Int.reduceLE, Int.reduceGT, Int.reduceGE, Int.reduceEq, Int.reduceAdd, Int.reduceSub, Int.reduceNeg, Int.reduceToNat, String.reduceEq, UInt8.reduceToNat, reduceCtorEq, ↓reduceIte]
      refine Cl.pure TT 4000 hc (by simp only [go_sem, Nat.zero_add, hn, hk, Nat.le_refl, Option.getD_some, Nat.reduceAdd, Nat.reduceBEq, Nat.reduceBNe, Nat.reduceMul, Nat.reduceSub, Nat.reduceEqDiff, Nat.reduceLT, Nat.reduceLeDiff, Int.reduceBEq, Int.reduceBNe, Int.reduceLT, Int.reduceLE, Int.reduceGT, Int.reduceGE, Int.reduceEq, Int.reduceAdd, Int.reduceSub, Int.reduceNeg, Int.reduceToNat, String.reduceEq, UInt8.reduceToNat, reduceCtorEq, ↓reduceIte]) rfl ?_
      simp only [go_sem, Option.getD_some, Nat.reduceAdd, Nat.reduceBEq, Nat.reduceBNe, Nat.reduceMul, Nat.reduceSub, Nat.reduceEqDiff, Nat.reduceLT, Nat.reduceLeDiff, Int.reduceBEq, Int.reduceBNe, Int.reduceLT, Int.reduceLE, Int.reduceGT, Int.reduceGE, Int.reduceEq, Int.reduceAdd, Int.reduceSub, Int.reduceNeg, Int.reduceToNat, String.reduceEq, UInt8.reduceToNat, reduceCtorEq, ↓reduceIte]
      exact Le.refl _
set_option maxRecDepth 100000 in
theorem Eval_work (r : List Val) (e : Expr) (h : (e.op.toList == sLit.toList) = false) (h2 : (e.op.toList == sAt.toList) = false) (h3 : (e.op.toList == sCall.toList) = false) (hb : e.l.length ≤ 1000) (vs : List Val) (hn : vs.length = e.l.length)
    (hp : ∀ (j : Nat) x v, e.l[j]? = some x → vs[j]? = some v → EvalR r x v 0) {res : Val} {f : Int} {lo hi : Int} {g : FuncId} {caps : List CV}
    (W : Good Tryz.prog 30 [cS e.op] [] (.tup [.agg [cI lo, cI hi, .c (.fn g caps)], cB true]) []) (hlo : lo ≤ e.l.length) (hhi : e.l.length ≤ hi) (G : Good Tryz.prog g (.c (rowC vs) :: caps.map opn) [] (vals res f) []) : EvalR r e res f := by
  refine Good.of_vmQ TT 4000 Tryz.func11 rfl rfl ?_
  unfold Tryz.f11
  simp only [go_sem, h, h2, Option.getD_some, Nat.reduceAdd, Nat.reduceBEq, Nat.reduceBNe, Nat.reduceMul, Nat.reduceSub, Nat.reduceEqDiff, Nat.reduceLT, Nat.reduceLeDiff, Int.reduceBEq, Int.reduceBNe, Int.reduceLT, Int.reduceLE, Int.reduceGT, Int.reduceGE, Int.reduceEq, Int.reduceAdd, Int.reduceSub, Int.reduceNeg, Int.reduceToNat, String.reduceEq, UInt8.reduceToNat, reduceCtorEq, ↓reduceIte]
  refine ⟨⟨by omega, by omega⟩, ?_⟩
  refine Lp.fit TT 4000 3 (Nat.zero_le _) (fun j : Nat => e.l.length - j) (fun j => j ≤ e.l.length)
    (fun j => ⟨[.dead, .c (rowC r), .ptr 0 0, .dead, .ptr 1 0, .dead, .sl 2 0 e.l.length] ++ List.replicate 38 .dead ++ [.c (.lst 7 false (e.l.map Expr.cs)), cI e.l.length, cI j] ++ List.replicate 57 .dead,
      [.box [cS e.op, cI e.v.k, cI e.v.i, cS e.v.s, cS e.table, cS e.name, .c (.lst 7 false (e.l.map Expr.cs))], .box [cI 0, cI 0, cS ⟨#[]⟩], .rows 3 23 (fillX vs e.l.length j)]⟩) 0 (Nat.zero_le _) ?_ ?_
  · simp only [go_sem, Option.getD_some, Nat.reduceAdd, Nat.reduceBEq, Nat.reduceBNe, Nat.reduceMul, Nat.reduceSub, Nat.reduceEqDiff, Nat.reduceLT, Nat.reduceLeDiff, Int.reduceBEq, Int.reduceBNe, Int.reduceLT, Int.reduceLE, Int.reduceGT, Int.reduceGE, Int.reduceEq, Int.reduceAdd, Int.reduceSub, Int.reduceNeg, Int.reduceToNat, String.reduceEq, UInt8.reduceToNat, reduceCtorEq, ↓reduceIte]
    rw [show fillX vs e.l.length 0 = List.replicate e.l.length [.int .i64 0, .int .i64 0, .str ⟨#[]⟩] by simp [fillX]]
  · rintro j i1
    rcases Nat.lt_or_ge j e.l.length with hlt | hge
    · obtain ⟨x, hx, hm, ht, hd⟩ := getS hlt
      have hw := wrap_succ (j := j) (by omega)
      have hv := List.getElem?_eq_getElem (l := vs) (i := j) (by omega)
      generalize vs[j]'(by omega) = v at hv
      have hg := fillX_get hn hlt
      have hs := fillX_set hn hlt hv
      simp only [go_sem, hlt, hx, Option.getD_some, Nat.reduceAdd, Nat.reduceBEq, Nat.reduceBNe, Nat.reduceMul, Nat.reduceSub, Nat.reduceEqDiff, Nat.reduceLT, Nat.reduceLeDiff, Int.reduceBEq, Int.reduceBNe, Int.reduceLT, Int.reduceLE, Int.reduceGT, Int.reduceGE, Int.reduceEq, Int.reduceAdd, Int.reduceSub, Int.reduceNeg, Int.reduceToNat, String.reduceEq, UInt8.reduceToNat, reduceCtorEq, ↓reduceIte]
      (refine Cl.pure TT 4000 (hp j x v hx hv) rfl rfl ?_; simp only [go_sem, hlt, hw, hg, hs, Nat.zero_add, Option.getD_some, Nat.reduceAdd, Nat.reduceBEq, Nat.reduceBNe, Nat.reduceMul, Nat.reduceSub, Nat.reduceEqDiff, Nat.reduceLT, Nat.reduceLeDiff, Int.reduceBEq, Int.reduceBNe, Int.reduceLT, Int.reduceLE, Int.reduceGT, Int.reduceGE, Int.reduceEq, Int.reduceAdd, Int.reduceSub, Int.reduceNeg, Int.reduceToNat, String.reduceEq, UInt8.reduceToNat, reduceCtorEq, ↓reduceIte])
      exact ⟨j + 1, by omega, by omega, by simp only [go_sem, Option.getD_some, Nat.reduceAdd, Nat.reduceBEq, Nat.reduceBNe, Nat.reduceMul, Nat.reduceSub, Nat.reduceEqDiff, Nat.reduceLT, Nat.reduceLeDiff, Int.reduceBEq, Int.reduceBNe, Int.reduceLT, Int.reduceLE, Int.reduceGT, Int.reduceGE, Int.reduceEq, Int.reduceAdd, Int.reduceSub, Int.reduceNeg, Int.reduceToNat, String.reduceEq, UInt8.reduceToNat, reduceCtorEq, ↓reduceIte]⟩
    · have : j = e.l.length := by omega
      subst this
      have hf : fillX vs e.l.length e.l.length = vs.map Val.cs := by simp [fillX, ← hn]
      have hk : List.take e.l.length (vs.map Val.cs) = vs.map Val.cs := List.take_of_length_le (by simp [hn])
      have q1 : ¬ ((e.l.length : Int) < lo) := by omega
      have q2 : ¬ ((e.l.length : Int) > hi) := by omega
      simp only [go_sem, Nat.lt_irrefl, h3, hf, Option.getD_some, Nat.reduceAdd, Nat.reduceBEq, Nat.reduceBNe, Nat.reduceMul, Nat.reduceSub, Nat.reduceEqDiff, Nat.reduceLT, Nat.reduceLeDiff, Int.reduceBEq, Int.reduceBNe, Int.reduceLT, Int.reduceLE, Int.reduceGT, Int.reduceGE, Int.reduceEq, Int.reduceAdd, Int.reduceSub, Int.reduceNeg, Int.reduceToNat, String.reduceEq, UInt8.reduceToNat, reduceCtorEq, ↓reduceIte]
      refine Cl.pure TT 4000 W rfl rfl ?_
      simp only [go_sem, q1, q2, Option.getD_some, Nat.reduceAdd, Nat.reduceBEq, Nat.reduceBNe, Nat.reduceMul, Nat.reduceSub, Nat.reduceEqDiff, Nat.reduceLT, Nat.reduceLeDiff, Int.reduceBEq, Int.reduceBNe, Int.reduceLT, Int.reduceLE, Int.reduceGT, Int.reduceGE, Int.reduceEq, Int.reduceAdd, Int.reduceSub, Int.reduceNeg, Int.reduceToNat, String.reduceEq, UInt8.reduceToNat, reduceCtorEq, ↓reduceIte]
      refine Cl.pure TT 4000 G (by simp only [go_sem, Nat.zero_add, hn, hk, Nat.le_refl, Option.getD_some, Nat.reduceAdd, Nat.reduceBEq, Nat.reduceBNe, Nat.reduceMul, Nat.reduceSub, Nat.reduceEqDiff, Nat.reduceLT, Nat.reduceLeDiff, Int.reduceBEq, Int.reduceBNe, Int.reduceLT, Int.reduceLE, Int.reduceGT, Int.reduceGE, Int.reduceEq, Int.reduceAdd, Int.reduceSub, Int.reduceNeg, Int.reduceToNat, String.reduceEq, UInt8.reduceToNat, reduceCtorEq, ↓reduceIte]) rfl ?_
      simp only [go_sem, Option.getD_some, Nat.reduceAdd, Nat.reduceBEq, Nat.reduceBNe, Nat.reduceMul, Nat.reduceSub, Nat.reduceEqDiff, Nat.reduceLT, Nat.reduceLeDiff, Int.reduceBEq, Int.reduceBNe, Int.reduceLT, Int.reduceLE, Int.reduceGT, Int.reduceGE, Int.reduceEq, Int.reduceAdd, Int.reduceSub, Int.reduceNeg, Int.reduceToNat, String.reduceEq, UInt8.reduceToNat, reduceCtorEq, ↓reduceIte]
      exact Le.refl _
end Go.Ev
