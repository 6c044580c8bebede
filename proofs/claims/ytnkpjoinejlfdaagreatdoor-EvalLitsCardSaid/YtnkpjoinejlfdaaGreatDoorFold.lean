/-  slices.Clone of expressions; eval.fold. -/
import Derived.Test.YtnkpjoinejlfdaaGreatDoorMk
import Derived.Test.YtnkpjoinejlfdaaGreatDoorUses
set_option linter.all false
open Go Go.Proofs
namespace Go.Ev
set_option maxRecDepth 100000 in
theorem clone_nil : Good Tryz.prog 37 [.c (.lst 7 false [])] [] (.c (.lst 7 false [])) [] := by
  refine Good.of_vmQ TT 4000 Tryz.func37 rfl rfl ?_
  unfold Tryz.f37
  simp only [go_sem, Option.getD_some, Nat.reduceAdd, Nat.reduceBEq, Nat.reduceBNe, Nat.reduceMul, Nat.reduceSub, Nat.reduceEqDiff, Nat.reduceLT, Nat.reduceLeDiff, Int.reduceBEq, Int.reduceBNe, Int.reduceLT, Int.reduceLE, Int.reduceGT, Int.reduceGE, Int.reduceEq, Int.reduceAdd, Int.reduceSub, Int.reduceNeg, Int.reduceToNat, String.reduceEq, UInt8.reduceToNat, reduceCtorEq, ↓reduceIte]
  intro b
  cases b
  · simp only [go_sem, Option.getD_some, Nat.reduceAdd, Nat.reduceBEq, Nat.reduceBNe, Nat.reduceMul, Nat.reduceSub, Nat.reduceEqDiff, Nat.reduceLT, Nat.reduceLeDiff, Int.reduceBEq, Int.reduceBNe, Int.reduceLT, Int.reduceLE, Int.reduceGT, Int.reduceGE, Int.reduceEq, Int.reduceAdd, Int.reduceSub, Int.reduceNeg, Int.reduceToNat, String.reduceEq, UInt8.reduceToNat, reduceCtorEq, ↓reduceIte]
  · simp only [go_sem, Option.getD_some, Nat.reduceAdd, Nat.reduceBEq, Nat.reduceBNe, Nat.reduceMul, Nat.reduceSub, Nat.reduceEqDiff, Nat.reduceLT, Nat.reduceLeDiff, Int.reduceBEq, Int.reduceBNe, Int.reduceLT, Int.reduceLE, Int.reduceGT, Int.reduceGE, Int.reduceEq, Int.reduceAdd, Int.reduceSub, Int.reduceNeg, Int.reduceToNat, String.reduceEq, UInt8.reduceToNat, reduceCtorEq, ↓reduceIte]
theorem Expr.cs_len (e : Expr) : e.cs.length = 7 := by rw [Expr.cs_eq]; rfl
theorem Expr.csL_all (l : List Expr) : ((l.map Expr.cs).all fun y => y.length == 7) = true := List.all_eq_true.2 fun y hy => by
  obtain ⟨x, _, rfl⟩ := List.mem_map.1 hy
  rw [Expr.cs_len]; rfl
set_option maxRecDepth 100000 in
theorem clone_cons (x : Expr) (l : List Expr) (h : l.length ≤ 1000000) : Good Tryz.prog 37 [.c (.lst 7 false ((x :: l).map Expr.cs))] [] (.sl 0 0 (x :: l).length) [.rows 7 26 ((x :: l).map Expr.cs)] := by
  refine Good.of_vmA TT 4000 [2] Tryz.func37 rfl rfl ?_
  unfold Tryz.f37
  simp only [go_sem, Expr.csL_all, Option.getD_some, Nat.reduceAdd, Nat.reduceBEq, Nat.reduceBNe, Nat.reduceMul, Nat.reduceSub, Nat.reduceEqDiff, Nat.reduceLT, Nat.reduceLeDiff, Int.reduceBEq, Int.reduceBNe, Int.reduceLT, Int.reduceLE, Int.reduceGT, Int.reduceGE, Int.reduceEq, Int.reduceAdd, Int.reduceSub, Int.reduceNeg, Int.reduceToNat, String.reduceEq, UInt8.reduceToNat, reduceCtorEq, ↓reduceIte]
  exact ⟨by omega, by kernel_rfl, Le.of_eq (by rw [Nat.zero_add])⟩

mutual
def foldE (ev : Expr → Option Val) : Expr → Expr
  | .mk op v t n l => match (if ((Expr.mk op v t n l).uses []).isEmpty then ev (.mk op v t n l) else none) with
    | some v => litE v
    | none => .mk op v t n (foldL ev l)
def foldL (ev : Expr → Option Val) : List Expr → List Expr
  | [] => []
  | e :: l => foldE ev e :: foldL ev l
end
theorem foldL_map (ev : Expr → Option Val) : ∀ l, foldL ev l = l.map (foldE ev)
  | [] => rfl
  | e :: l => by simp [foldL, foldL_map ev l]
theorem foldE_eq (ev : Expr → Option Val) (e : Expr) : foldE ev e = match (if (e.uses []).isEmpty then ev e else none) with
    | some v => litE v
    | none => .mk e.op e.v e.table e.name (e.l.map (foldE ev)) := by
  cases e; rw [foldE, foldL_map]; rfl
mutual
def Expr.All (p : Expr → Prop) : Expr → Prop
  | .mk op v t n l => p (.mk op v t n l) ∧ Expr.AllL p l
def Expr.AllL (p : Expr → Prop) : List Expr → Prop
  | [] => True
  | e :: l => Expr.All p e ∧ Expr.AllL p l
end
theorem Expr.AllL_iff (p : Expr → Prop) : ∀ l, Expr.AllL p l ↔ ∀ x, x ∈ l → Expr.All p x
  | [] => by simp [Expr.AllL]
  | e :: l => by simp [Expr.AllL, Expr.AllL_iff p l]
theorem Expr.All_iff (p : Expr → Prop) (e : Expr) : Expr.All p e ↔ p e ∧ ∀ x, x ∈ e.l → Expr.All p x := by
  cases e; rw [Expr.All, Expr.AllL_iff]; rfl
def foldC (ev : Expr → Option Val) (x : Expr) : List CV := (foldE ev x).cs
section
variable {α β : Type} {f g : α → β} {l : List α}
/-- A list whose first j elements are done. -/
def mixR (f g : α → β) (l : List α) (j : Nat) : List β := (l.take j).map g ++ (l.drop j).map f
theorem mixR_zero : mixR f g l 0 = l.map f := by simp [mixR]
theorem mixR_all : mixR f g l l.length = l.map g := by simp [mixR]
theorem mixR_len (j : Nat) : (mixR f g l j).length = l.length := by simp [mixR]; omega
theorem mixR_get {j : Nat} {x : α} (h : l[j]? = some x) : (mixR f g l j)[j]? = some (f x) := by
  have hj := (List.getElem?_eq_some_iff.1 h).1
  unfold mixR
  rw [List.getElem?_append_right (by simp; omega)]
  simp [Nat.min_eq_left (Nat.le_of_lt hj), h]
theorem mixR_set {j : Nat} {x : α} (h : l[j]? = some x) : (mixR f g l j).set j (g x) = mixR f g l (j + 1) := by
  have hj := (List.getElem?_eq_some_iff.1 h).1
  have hx : l[j] = x := by rw [List.getElem?_eq_getElem hj] at h; exact Option.some.inj h
  unfold mixR
  rw [List.set_append_right _ _ (by simp; omega)]
  simp only [List.length_map, List.length_take, Nat.min_eq_left (Nat.le_of_lt hj), Nat.sub_self]
  rw [List.drop_eq_getElem_cons hj, List.map_cons, List.set_cons_zero, ← List.take_append_getElem hj, List.map_append, hx]
  simp
end
/-- What the folding asks of an expression: its places, its value. -/
structure FoldOK (ev : Expr → Option Val) (e : Expr) : Prop where
  nodup : (e.uses []).Nodup
  i64 : ∀ n, n ∈ e.uses [] → I64 n
  few : (e.uses []).length ≤ 1000000
  len : e.l.length ≤ 1000000
  ev : e.uses [] = [] → ∃ v f, EvalR [] e v f ∧ ev e = if f = 0 then some v else none
theorem places_nil {e : Expr} (h : (e.uses []).isEmpty = true) : sortedAV e.places = .c .nl := by
  rw [List.isEmpty_iff] at h
  unfold Expr.places; rw [h, List.mergeSort_nil]; rfl
theorem places_cons {e : Expr} (h : (e.uses []).isEmpty = false) : ∃ a l, sortedAV e.places = .c (.lst 1 false ([.int .i64 a] :: l)) := by
  have : e.places ≠ [] := fun h2 => by
    have h3 := List.length_mergeSort (le := leI) (e.uses [])
    unfold Expr.places at h2
    rw [h2] at h3
    have := List.eq_nil_of_length_eq_zero h3.symm
    rw [this] at h; cases h
  cases hp : e.places with
  | nil => exact absurd hp this
  | cons a l => exact ⟨a, _, rfl⟩
set_option maxRecDepth 100000 in
set_option maxHeartbeats 4000000 in
theorem fold_good (ev : Expr → Option Val) (e : Expr) : Expr.All (FoldOK ev) e → Good Tryz.prog 28 [e.av] [] (foldE ev e).av [] := by
  induction e using Expr.ind with
  | h e ih =>
  intro ha
  rw [Expr.All_iff] at ha
  obtain ⟨ho, hs⟩ := ha
  refine Good.of_vmQ TT 4000 Tryz.func28 rfl rfl ?_
  unfold Tryz.f28
  simp only [go_sem, Option.getD_some, Nat.reduceAdd, Nat.reduceBEq, Nat.reduceBNe, Nat.reduceMul, Nat.reduceSub, Nat.reduceEqDiff, Nat.reduceLT, Nat.reduceLeDiff, Int.reduceBEq, Int.reduceBNe, Int.reduceLT, Int.reduceLE, Int.reduceGT, Int.reduceGE, Int.reduceEq, Int.reduceAdd, Int.reduceSub, Int.reduceNeg, Int.reduceToNat, String.reduceEq, UInt8.reduceToNat, reduceCtorEq, ↓reduceIte]
  refine Cl.pure TT 4000 (uses_good e ho.nodup ho.i64 ho.few) rfl (by cases e.places <;> rfl) ?_
  cases hu : (e.uses []).isEmpty
  · obtain ⟨a, l, hp⟩ := places_cons hu
    rw [hp]
    have hF : foldE ev e = .mk e.op e.v e.table e.name (e.l.map (foldE ev)) := by rw [foldE_eq, hu]; rfl
    rw [hF]
    have hn : (((l.length + 1 : Nat) : Int) == 0) = false := by simp; omega
    rcases hl : e.l with _ | ⟨y, l⟩
    · simp only [go_sem, hn, hl, Option.getD_some, Nat.reduceAdd, Nat.reduceBEq, Nat.reduceBNe, Nat.reduceMul, Nat.reduceSub, Nat.reduceEqDiff, Nat.reduceLT, Nat.reduceLeDiff, Int.reduceBEq, Int.reduceBNe, Int.reduceLT, Int.reduceLE, Int.reduceGT, Int.reduceGE, Int.reduceEq, Int.reduceAdd, Int.reduceSub, Int.reduceNeg, Int.reduceToNat, String.reduceEq, UInt8.reduceToNat, reduceCtorEq, ↓reduceIte]
      (refine Cl.pure TT 4000 (clone_nil) rfl rfl ?_; simp only [go_sem, Option.getD_some, Nat.reduceAdd, Nat.reduceBEq, Nat.reduceBNe, Nat.reduceMul, Nat.reduceSub, Nat.reduceEqDiff, Nat.reduceLT, Nat.reduceLeDiff, Int.reduceBEq, Int.reduceBNe, Int.reduceLT, Int.reduceLE, Int.reduceGT, Int.reduceGE, Int.reduceEq, Int.reduceAdd, Int.reduceSub, Int.reduceNeg, Int.reduceToNat, String.reduceEq, UInt8.reduceToNat, reduceCtorEq, ↓reduceIte])
      refine Lp.at TT 4000 2 (Nat.le_of_ble_eq_true rfl) [false, false, false, false, false, true, true, false, false, false, false, false, false, false, false, false, false, false, false, false, false, false, false, false, false, false, false, true, true, true, true, true, true, true, true, true, true, true, true] (fun _ : Unit => 0) (fun _ => True) (fun _ => [(27, cI 0)]) (fun _ => []) (()) (trivial) ?_ ?_
      · simp only [go_sem, Option.getD_some, Nat.reduceAdd, Nat.reduceBEq, Nat.reduceBNe, Nat.reduceMul, Nat.reduceSub, Nat.reduceEqDiff, Nat.reduceLT, Nat.reduceLeDiff, Int.reduceBEq, Int.reduceBNe, Int.reduceLT, Int.reduceLE, Int.reduceGT, Int.reduceGE, Int.reduceEq, Int.reduceAdd, Int.reduceSub, Int.reduceNeg, Int.reduceToNat, String.reduceEq, UInt8.reduceToNat, reduceCtorEq, ↓reduceIte]
      · rintro _ _
        simp only [go_sem, hl, Option.getD_some, Nat.reduceAdd, Nat.reduceBEq, Nat.reduceBNe, Nat.reduceMul, Nat.reduceSub, Nat.reduceEqDiff, Nat.reduceLT, Nat.reduceLeDiff, Int.reduceBEq, Int.reduceBNe, Int.reduceLT, Int.reduceLE, Int.reduceGT, Int.reduceGE, Int.reduceEq, Int.reduceAdd, Int.reduceSub, Int.reduceNeg, Int.reduceToNat, String.reduceEq, UInt8.reduceToNat, reduceCtorEq, ↓reduceIte]
    · simp only [go_sem, hn, hl, Option.getD_some, Nat.reduceAdd, Nat.reduceBEq, Nat.reduceBNe, Nat.reduceMul, Nat.reduceSub, Nat.reduceEqDiff, Nat.reduceLT, Nat.reduceLeDiff, Int.reduceBEq, Int.reduceBNe, Int.reduceLT, Int.reduceLE, Int.reduceGT, Int.reduceGE, Int.reduceEq, Int.reduceAdd, Int.reduceSub, Int.reduceNeg, Int.reduceToNat, String.reduceEq, UInt8.reduceToNat, reduceCtorEq, ↓reduceIte]
      refine Cl.frame TT 4000 [] (clone_cons y l (by have := ho.len; rw [hl, List.length_cons] at this; omega)) rfl (by simp only [go_sem, Option.getD_some, Nat.reduceAdd, Nat.reduceBEq, Nat.reduceBNe, Nat.reduceMul, Nat.reduceSub, Nat.reduceEqDiff, Nat.reduceLT, Nat.reduceLeDiff, Int.reduceBEq, Int.reduceBNe, Int.reduceLT, Int.reduceLE, Int.reduceGT, Int.reduceGE, Int.reduceEq, Int.reduceAdd, Int.reduceSub, Int.reduceNeg, Int.reduceToNat, String.reduceEq, UInt8.reduceToNat, reduceCtorEq, ↓reduceIte]) rfl (Nat.zero_le _) ?_
      simp only [go_sem, Option.getD_some, Nat.reduceAdd, Nat.reduceBEq, Nat.reduceBNe, Nat.reduceMul, Nat.reduceSub, Nat.reduceEqDiff, Nat.reduceLT, Nat.reduceLeDiff, Int.reduceBEq, Int.reduceBNe, Int.reduceLT, Int.reduceLE, Int.reduceGT, Int.reduceGE, Int.reduceEq, Int.reduceAdd, Int.reduceSub, Int.reduceNeg, Int.reduceToNat, String.reduceEq, UInt8.reduceToNat, reduceCtorEq, ↓reduceIte]
      refine Lp.at TT 4000 3 (Nat.le_of_ble_eq_true rfl) [false, false, false, false, false, true, true, false, false, false, false, false, false, false, false, false, false, false, false, false, false, false, false, false, false, false, false, true, true, true, true, true, true, true, true, true, true, true, true] (fun j : Nat => l.length + 1 - j) (fun j => j ≤ l.length + 1) (fun j => [(27, cI j)]) (fun j => [(2, .rows 7 26 (mixR Expr.cs (foldC ev) (y :: l) j))]) (0) (Nat.zero_le _) ?_ ?_
      · simp only [go_sem, mixR_zero, Option.getD_some, Nat.reduceAdd, Nat.reduceBEq, Nat.reduceBNe, Nat.reduceMul, Nat.reduceSub, Nat.reduceEqDiff, Nat.reduceLT, Nat.reduceLeDiff, Int.reduceBEq, Int.reduceBNe, Int.reduceLT, Int.reduceLE, Int.reduceGT, Int.reduceGE, Int.reduceEq, Int.reduceAdd, Int.reduceSub, Int.reduceNeg, Int.reduceToNat, String.reduceEq, UInt8.reduceToNat, reduceCtorEq, ↓reduceIte]
      · rintro j i1
        rcases Nat.lt_or_ge j (l.length + 1) with hlt | hge
        · obtain ⟨x, hx, hm, ht, hd⟩ := getS (l := y :: l) hlt
          have hw := wrap_succ (j := j) (by have := ho.len; rw [hl, List.length_cons] at this; omega)
          have hg := mixR_get (f := Expr.cs) (g := foldC ev) hx
          have hst := mixR_set (f := Expr.cs) (g := foldC ev) hx
          rw [Expr.cs_eq] at hg
          rw [foldC, Expr.cs_eq] at hst
          simp only [go_sem, hlt, hg, Nat.zero_add, Option.getD_some, Nat.reduceAdd, Nat.reduceBEq, Nat.reduceBNe, Nat.reduceMul, Nat.reduceSub, Nat.reduceEqDiff, Nat.reduceLT, Nat.reduceLeDiff, Int.reduceBEq, Int.reduceBNe, Int.reduceLT, Int.reduceLE, Int.reduceGT, Int.reduceGE, Int.reduceEq, Int.reduceAdd, Int.reduceSub, Int.reduceNeg, Int.reduceToNat, String.reduceEq, UInt8.reduceToNat, reduceCtorEq, ↓reduceIte]
          refine Dr.ofC TT (by kernel_rfl) [(28, [x.av], (foldE ev x).av)] ⟨⟨ih x (hl ▸ hm) (hs x (hl ▸ hm)), rfl⟩, trivial⟩ ?_
          simp only [go_sem, hlt, hg, hst, Nat.zero_add, Option.getD_some, Nat.reduceAdd, Nat.reduceBEq, Nat.reduceBNe, Nat.reduceMul, Nat.reduceSub, Nat.reduceEqDiff, Nat.reduceLT, Nat.reduceLeDiff, Int.reduceBEq, Int.reduceBNe, Int.reduceLT, Int.reduceLE, Int.reduceGT, Int.reduceGE, Int.reduceEq, Int.reduceAdd, Int.reduceSub, Int.reduceNeg, Int.reduceToNat, String.reduceEq, UInt8.reduceToNat, reduceCtorEq, ↓reduceIte]
          refine DEnd.of TT 4000 (memOK_of2 (by kernel_rfl)) ?_
          simp only [go_sem, hw, Option.getD_some, Nat.reduceAdd, Nat.reduceBEq, Nat.reduceBNe, Nat.reduceMul, Nat.reduceSub, Nat.reduceEqDiff, Nat.reduceLT, Nat.reduceLeDiff, Int.reduceBEq, Int.reduceBNe, Int.reduceLT, Int.reduceLE, Int.reduceGT, Int.reduceGE, Int.reduceEq, Int.reduceAdd, Int.reduceSub, Int.reduceNeg, Int.reduceToNat, String.reduceEq, UInt8.reduceToNat, reduceCtorEq, ↓reduceIte]
          exact ⟨j + 1, by omega, by omega, Fit1.of_eq rfl, rfl⟩
        · have : j = l.length + 1 := by omega
          subst this
          have ha := mixR_all (f := Expr.cs) (g := foldC ev) (l := y :: l)
          rw [List.length_cons] at ha
          have hk : List.take l.length (List.map (foldC ev) l) = List.map Expr.cs (List.map (foldE ev) l) := by
            rw [List.take_of_length_le (by simp), List.map_map]; rfl
          simp only [go_sem, Nat.lt_irrefl, ha, Nat.zero_add, Nat.le_refl, hk, foldC, Option.getD_some, Nat.reduceAdd, Nat.reduceBEq, Nat.reduceBNe, Nat.reduceMul, Nat.reduceSub, Nat.reduceEqDiff, Nat.reduceLT, Nat.reduceLeDiff, Int.reduceBEq, Int.reduceBNe, Int.reduceLT, Int.reduceLE, Int.reduceGT, Int.reduceGE, Int.reduceEq, Int.reduceAdd, Int.reduceSub, Int.reduceNeg, Int.reduceToNat, String.reduceEq, UInt8.reduceToNat, reduceCtorEq, ↓reduceIte]
  · rw [places_nil hu]
    obtain ⟨v, f, h1, h2⟩ := ho.ev (List.isEmpty_iff.1 hu)
    simp only [go_sem, Option.getD_some, Nat.reduceAdd, Nat.reduceBEq, Nat.reduceBNe, Nat.reduceMul, Nat.reduceSub, Nat.reduceEqDiff, Nat.reduceLT, Nat.reduceLeDiff, Int.reduceBEq, Int.reduceBNe, Int.reduceLT, Int.reduceLE, Int.reduceGT, Int.reduceGE, Int.reduceEq, Int.reduceAdd, Int.reduceSub, Int.reduceNeg, Int.reduceToNat, String.reduceEq, UInt8.reduceToNat, reduceCtorEq, ↓reduceIte]
    refine Cl.pureL TT 4000 h1 rfl (.cons (Le.refl _) (.cons (Le.c (CLe.nl 3 false)) .nil)) rfl ?_
    simp only [go_sem, Option.getD_some, Nat.reduceAdd, Nat.reduceBEq, Nat.reduceBNe, Nat.reduceMul, Nat.reduceSub, Nat.reduceEqDiff, Nat.reduceLT, Nat.reduceLeDiff, Int.reduceBEq, Int.reduceBNe, Int.reduceLT, Int.reduceLE, Int.reduceGT, Int.reduceGE, Int.reduceEq, Int.reduceAdd, Int.reduceSub, Int.reduceNeg, Int.reduceToNat, String.reduceEq, UInt8.reduceToNat, reduceCtorEq, ↓reduceIte]
    cases hf : (f == 0)
    · have hF : foldE ev e = .mk e.op e.v e.table e.name (e.l.map (foldE ev)) := by
        rw [foldE_eq, hu, h2, if_pos rfl, if_neg (by simpa using hf)]
      rw [hF]
      rcases hl : e.l with _ | ⟨y, l⟩
      · simp only [go_sem, hf, hl, Option.getD_some, Nat.reduceAdd, Nat.reduceBEq, Nat.reduceBNe, Nat.reduceMul, Nat.reduceSub, Nat.reduceEqDiff, Nat.reduceLT, Nat.reduceLeDiff, Int.reduceBEq, Int.reduceBNe, Int.reduceLT, Int.reduceLE, Int.reduceGT, Int.reduceGE, Int.reduceEq, Int.reduceAdd, Int.reduceSub, Int.reduceNeg, Int.reduceToNat, String.reduceEq, UInt8.reduceToNat, reduceCtorEq, ↓reduceIte]
        (refine Cl.pure TT 4000 (clone_nil) rfl rfl ?_; simp only [go_sem, Option.getD_some, Nat.reduceAdd, Nat.reduceBEq, Nat.reduceBNe, Nat.reduceMul, Nat.reduceSub, Nat.reduceEqDiff, Nat.reduceLT, Nat.reduceLeDiff, Int.reduceBEq, Int.reduceBNe, Int.reduceLT, Int.reduceLE, Int.reduceGT, Int.reduceGE, Int.reduceEq, Int.reduceAdd, Int.reduceSub, Int.reduceNeg, Int.reduceToNat, String.reduceEq, UInt8.reduceToNat, reduceCtorEq, ↓reduceIte])
        refine Lp.at TT 4000 3 (Nat.le_of_ble_eq_true rfl) [false, false, false, false, false, true, true, false, false, false, false, false, false, false, false, false, false, false, false, false, false, false, false, false, false, false, false, true, true, true, true, true, true, true, true, true, true, true, true] (fun _ : Unit => 0) (fun _ => True) (fun _ => [(27, cI 0)]) (fun _ => []) (()) (trivial) ?_ ?_
        · simp only [go_sem, Option.getD_some, Nat.reduceAdd, Nat.reduceBEq, Nat.reduceBNe, Nat.reduceMul, Nat.reduceSub, Nat.reduceEqDiff, Nat.reduceLT, Nat.reduceLeDiff, Int.reduceBEq, Int.reduceBNe, Int.reduceLT, Int.reduceLE, Int.reduceGT, Int.reduceGE, Int.reduceEq, Int.reduceAdd, Int.reduceSub, Int.reduceNeg, Int.reduceToNat, String.reduceEq, UInt8.reduceToNat, reduceCtorEq, ↓reduceIte]
        · rintro _ _
          simp only [go_sem, hl, Option.getD_some, Nat.reduceAdd, Nat.reduceBEq, Nat.reduceBNe, Nat.reduceMul, Nat.reduceSub, Nat.reduceEqDiff, Nat.reduceLT, Nat.reduceLeDiff, Int.reduceBEq, Int.reduceBNe, Int.reduceLT, Int.reduceLE, Int.reduceGT, Int.reduceGE, Int.reduceEq, Int.reduceAdd, Int.reduceSub, Int.reduceNeg, Int.reduceToNat, String.reduceEq, UInt8.reduceToNat, reduceCtorEq, ↓reduceIte]
      · simp only [go_sem, hf, hl, Option.getD_some, Nat.reduceAdd, Nat.reduceBEq, Nat.reduceBNe, Nat.reduceMul, Nat.reduceSub, Nat.reduceEqDiff, Nat.reduceLT, Nat.reduceLeDiff, Int.reduceBEq, Int.reduceBNe, Int.reduceLT, Int.reduceLE, Int.reduceGT, Int.reduceGE, Int.reduceEq, Int.reduceAdd, Int.reduceSub, Int.reduceNeg, Int.reduceToNat, String.reduceEq, UInt8.reduceToNat, reduceCtorEq, ↓reduceIte]
        refine Cl.frame TT 4000 [] (clone_cons y l (by have := ho.len; rw [hl, List.length_cons] at this; omega)) rfl (by simp only [go_sem, Option.getD_some, Nat.reduceAdd, Nat.reduceBEq, Nat.reduceBNe, Nat.reduceMul, Nat.reduceSub, Nat.reduceEqDiff, Nat.reduceLT, Nat.reduceLeDiff, Int.reduceBEq, Int.reduceBNe, Int.reduceLT, Int.reduceLE, Int.reduceGT, Int.reduceGE, Int.reduceEq, Int.reduceAdd, Int.reduceSub, Int.reduceNeg, Int.reduceToNat, String.reduceEq, UInt8.reduceToNat, reduceCtorEq, ↓reduceIte]) rfl (Nat.zero_le _) ?_
        simp only [go_sem, Option.getD_some, Nat.reduceAdd, Nat.reduceBEq, Nat.reduceBNe, Nat.reduceMul, Nat.reduceSub, Nat.reduceEqDiff, Nat.reduceLT, Nat.reduceLeDiff, Int.reduceBEq, Int.reduceBNe, Int.reduceLT, Int.reduceLE, Int.reduceGT, Int.reduceGE, Int.reduceEq, Int.reduceAdd, Int.reduceSub, Int.reduceNeg, Int.reduceToNat, String.reduceEq, UInt8.reduceToNat, reduceCtorEq, ↓reduceIte]
        refine Lp.at TT 4000 4 (Nat.le_of_ble_eq_true rfl) [false, false, false, false, false, true, true, false, false, false, false, false, false, false, false, false, false, false, false, false, false, false, false, false, false, false, false, true, true, true, true, true, true, true, true, true, true, true, true] (fun j : Nat => l.length + 1 - j) (fun j => j ≤ l.length + 1) (fun j => [(27, cI j)]) (fun j => [(3, .rows 7 26 (mixR Expr.cs (foldC ev) (y :: l) j))]) (0) (Nat.zero_le _) ?_ ?_
        · simp only [go_sem, mixR_zero, Option.getD_some, Nat.reduceAdd, Nat.reduceBEq, Nat.reduceBNe, Nat.reduceMul, Nat.reduceSub, Nat.reduceEqDiff, Nat.reduceLT, Nat.reduceLeDiff, Int.reduceBEq, Int.reduceBNe, Int.reduceLT, Int.reduceLE, Int.reduceGT, Int.reduceGE, Int.reduceEq, Int.reduceAdd, Int.reduceSub, Int.reduceNeg, Int.reduceToNat, String.reduceEq, UInt8.reduceToNat, reduceCtorEq, ↓reduceIte]
        · rintro j i1
          rcases Nat.lt_or_ge j (l.length + 1) with hlt | hge
          · obtain ⟨x, hx, hm, ht, hd⟩ := getS (l := y :: l) hlt
            have hw := wrap_succ (j := j) (by have := ho.len; rw [hl, List.length_cons] at this; omega)
            have hg := mixR_get (f := Expr.cs) (g := foldC ev) hx
            have hst := mixR_set (f := Expr.cs) (g := foldC ev) hx
            rw [Expr.cs_eq] at hg
            rw [foldC, Expr.cs_eq] at hst
            simp only [go_sem, hlt, hg, Nat.zero_add, Option.getD_some, Nat.reduceAdd, Nat.reduceBEq, Nat.reduceBNe, Nat.reduceMul, Nat.reduceSub, Nat.reduceEqDiff, Nat.reduceLT, Nat.reduceLeDiff, Int.reduceBEq, Int.reduceBNe, Int.reduceLT, Int.reduceLE, Int.reduceGT, Int.reduceGE, Int.reduceEq, Int.reduceAdd, Int.reduceSub, Int.reduceNeg, Int.reduceToNat, String.reduceEq, UInt8.reduceToNat, reduceCtorEq, ↓reduceIte]
            refine Dr.ofC TT (by kernel_rfl) [(28, [x.av], (foldE ev x).av)] ⟨⟨ih x (hl ▸ hm) (hs x (hl ▸ hm)), rfl⟩, trivial⟩ ?_
            simp only [go_sem, hlt, hg, hst, Nat.zero_add, Option.getD_some, Nat.reduceAdd, Nat.reduceBEq, Nat.reduceBNe, Nat.reduceMul, Nat.reduceSub, Nat.reduceEqDiff, Nat.reduceLT, Nat.reduceLeDiff, Int.reduceBEq, Int.reduceBNe, Int.reduceLT, Int.reduceLE, Int.reduceGT, Int.reduceGE, Int.reduceEq, Int.reduceAdd, Int.reduceSub, Int.reduceNeg, Int.reduceToNat, String.reduceEq, UInt8.reduceToNat, reduceCtorEq, ↓reduceIte]
            refine DEnd.of TT 4000 (memOK_of2 (by kernel_rfl)) ?_
            simp only [go_sem, hw, Option.getD_some, Nat.reduceAdd, Nat.reduceBEq, Nat.reduceBNe, Nat.reduceMul, Nat.reduceSub, Nat.reduceEqDiff, Nat.reduceLT, Nat.reduceLeDiff, Int.reduceBEq, Int.reduceBNe, Int.reduceLT, Int.reduceLE, Int.reduceGT, Int.reduceGE, Int.reduceEq, Int.reduceAdd, Int.reduceSub, Int.reduceNeg, Int.reduceToNat, String.reduceEq, UInt8.reduceToNat, reduceCtorEq, ↓reduceIte]
            exact ⟨j + 1, by omega, by omega, Fit1.of_eq rfl, rfl⟩
          · have : j = l.length + 1 := by omega
            subst this
            have ha := mixR_all (f := Expr.cs) (g := foldC ev) (l := y :: l)
            rw [List.length_cons] at ha
            have hk : List.take l.length (List.map (foldC ev) l) = List.map Expr.cs (List.map (foldE ev) l) := by
              rw [List.take_of_length_le (by simp), List.map_map]; rfl
            simp only [go_sem, Nat.lt_irrefl, ha, Nat.zero_add, Nat.le_refl, hk, foldC, Option.getD_some, Nat.reduceAdd, Nat.reduceBEq, Nat.reduceBNe, Nat.reduceMul, Nat.reduceSub, Nat.reduceEqDiff, Nat.reduceLT, Nat.reduceLeDiff, Int.reduceBEq, Int.reduceBNe, Int.reduceLT, Int.reduceLE, Int.reduceGT, Int.reduceGE, Int.reduceEq, Int.reduceAdd, Int.reduceSub, Int.reduceNeg, Int.reduceToNat, String.reduceEq, UInt8.reduceToNat, reduceCtorEq, ↓reduceIte]
    · have hF : foldE ev e = litE v := by
        rw [foldE_eq, hu, h2, if_pos rfl, if_pos (by simpa using hf)]
      rw [hF]
      simp only [go_sem, hf, Option.getD_some, Nat.reduceAdd, Nat.reduceBEq, Nat.reduceBNe, Nat.reduceMul, Nat.reduceSub, Nat.reduceEqDiff, Nat.reduceLT, Nat.reduceLeDiff, Int.reduceBEq, Int.reduceBNe, Int.reduceLT, Int.reduceLE, Int.reduceGT, Int.reduceGE, Int.reduceEq, Int.reduceAdd, Int.reduceSub, Int.reduceNeg, Int.reduceToNat, String.reduceEq, UInt8.reduceToNat, reduceCtorEq, ↓reduceIte]
      exact nlE ..
end Go.Ev
