/-  slices.IndexFunc, ContainsFunc; scalar.check, null, num, size. -/
import Derived.Test.YtnkpjoinejlfdaaGreatDoorS1
set_option linter.all false
open Go Go.Proofs
namespace Go.Ev
/-- What is known of the own blocks and the arguments of any call. -/
theorem Good.scoped {P : Program} {f : FuncId} {args : List AV} {h h' : List ABlk} {r : AV} (G : AV.sc.scAll (born h) args = true → h.all (inB (born h)) = true → Good P f args h r h') : Good P f args h r h' := fun w N ρ vs H hs hl hr => by
  refine G hs ?_ w N ρ vs H hs hl hr
  refine List.all_eq_true.2 fun k hk => ?_
  obtain ⟨i, hi, rfl⟩ := List.getElem_of_mem hk
  exact H.scope i _ (List.getElem?_eq_getElem hi)

def idxOf (p : Val → Bool) (l : List Val) : Int := match l.findIdx? p with | some i => i | none => -1
theorem idxOf_hit {p : Val → Bool} {l : List Val} {j : Nat} {x : Val} (hx : l[j]? = some x) (hp : p x = true) (hn : (l.take j).any p = false) : idxOf p l = j := by
  have hj := (List.getElem?_eq_some_iff.1 hx).1
  have : l.findIdx? p = some j := by
    rw [List.findIdx?_eq_some_iff_getElem]
    refine ⟨hj, ?_, fun i hi => ?_⟩
    · rw [(List.getElem?_eq_some_iff.1 hx).2]; exact hp
    · have := List.any_eq_false.1 hn (l[i]'(by omega)) (List.mem_iff_getElem.2 ⟨i, by simp; omega, by simp⟩)
      simpa using this
  unfold idxOf; rw [this]
theorem idxOf_none {p : Val → Bool} {l : List Val} (hn : l.any p = false) : idxOf p l = -1 := by
  have : l.findIdx? p = none := by
    rw [List.findIdx?_eq_none_iff]
    intro x hx
    have := List.any_eq_false.1 hn x hx
    simpa using this
  unfold idxOf; rw [this]
theorem idxOf_any (p : Val → Bool) (l : List Val) : decide (idxOf p l ≥ 0) = l.any p := by
  cases h : l.any p with
  | false => rw [idxOf_none h]; rfl
  | true =>
    unfold idxOf
    cases hf : l.findIdx? p with
    | some i => simp only [decide_eq_true_eq]; omega
    | none =>
      rw [List.findIdx?_eq_none_iff] at hf
      obtain ⟨x, hx, hp⟩ := List.any_eq_true.1 h
      rw [hf x hx] at hp; cases hp

set_option maxRecDepth 100000 in
theorem IndexFunc_good (h : List ABlk) (g : FuncId) (caps : List AV) (v : AV) (hv : fnOf v = some (g, caps)) (p : Val → Bool) (l : List Val) (hp : ∀ x, x ∈ l → Good Tryz.prog g (x.av :: caps) h (cB (p x)) h) :
    Good Tryz.prog 43 [.c (rowC l), v] h (cI (idxOf p l)) h := by
  refine Good.bound (xs := l.map Val.cs) (List.mem_cons_self ..) fun hl => Good.scoped fun hsc hin => ?_
  simp only [AV.sc.scAll, Bool.and_true, Bool.and_eq_true] at hsc
  have hvs := hsc.2
  have hv2 := hv
  unfold fnOf at hv2
  rw [List.length_map] at hl
  refine Good.of_vmQ TT 4000 Tryz.func43 rfl rfl ?_
  unfold Tryz.f43
  simp only [go_sem, Option.getD_some, Nat.reduceAdd, Nat.reduceBEq, Nat.reduceBNe, Nat.reduceMul, Nat.reduceSub, Nat.reduceEqDiff, Nat.reduceLT, Nat.reduceLeDiff, Int.reduceBEq, Int.reduceBNe, Int.reduceLT, Int.reduceLE, Int.reduceGT, Int.reduceGE, Int.reduceEq, Int.reduceAdd, Int.reduceSub, Int.reduceNeg, Int.reduceToNat, String.reduceEq, UInt8.reduceToNat, reduceCtorEq, ↓reduceIte]
  refine Lp.fit TT 4000 h.length (Nat.le_refl _) (fun j : Nat => l.length - j) (fun j => j ≤ l.length ∧ (l.take j).any p = false)
    (fun j => ⟨[.c (rowC l), v, .und, .und, cI 0, .dead, .c (rowC l), cI l.length, cI j] ++ List.replicate 10 .dead, h⟩) 0 ⟨Nat.zero_le _, by simp⟩ ?_ ?_
  · simp only [go_sem, hvs, hin, List.take_length, Option.getD_some, Nat.reduceAdd, Nat.reduceBEq, Nat.reduceBNe, Nat.reduceMul, Nat.reduceSub, Nat.reduceEqDiff, Nat.reduceLT, Nat.reduceLeDiff, Int.reduceBEq, Int.reduceBNe, Int.reduceLT, Int.reduceLE, Int.reduceGT, Int.reduceGE, Int.reduceEq, Int.reduceAdd, Int.reduceSub, Int.reduceNeg, Int.reduceToNat, String.reduceEq, UInt8.reduceToNat, reduceCtorEq, ↓reduceIte]
  · rintro j ⟨i1, i2⟩
    rcases Nat.lt_or_ge j l.length with hlt | hge
    · obtain ⟨x, hx, hm, ht, hd⟩ := getS hlt
      have hw := wrap_succ (j := j) (by omega)
      simp only [go_sem, hlt, hx, hv2, Option.getD_some, Nat.reduceAdd, Nat.reduceBEq, Nat.reduceBNe, Nat.reduceMul, Nat.reduceSub, Nat.reduceEqDiff, Nat.reduceLT, Nat.reduceLeDiff, Int.reduceBEq, Int.reduceBNe, Int.reduceLT, Int.reduceLE, Int.reduceGT, Int.reduceGE, Int.reduceEq, Int.reduceAdd, Int.reduceSub, Int.reduceNeg, Int.reduceToNat, String.reduceEq, UInt8.reduceToNat, reduceCtorEq, ↓reduceIte]
      refine Cl.of TT 4000 (hp x hm) ?_
      simp only [go_sem, Option.getD_some, Nat.reduceAdd, Nat.reduceBEq, Nat.reduceBNe, Nat.reduceMul, Nat.reduceSub, Nat.reduceEqDiff, Nat.reduceLT, Nat.reduceLeDiff, Int.reduceBEq, Int.reduceBNe, Int.reduceLT, Int.reduceLE, Int.reduceGT, Int.reduceGE, Int.reduceEq, Int.reduceAdd, Int.reduceSub, Int.reduceNeg, Int.reduceToNat, String.reduceEq, UInt8.reduceToNat, reduceCtorEq, ↓reduceIte]
      cases hpx : p x
      · simp only [go_sem, hw, hpx, Option.getD_some, Nat.reduceAdd, Nat.reduceBEq, Nat.reduceBNe, Nat.reduceMul, Nat.reduceSub, Nat.reduceEqDiff, Nat.reduceLT, Nat.reduceLeDiff, Int.reduceBEq, Int.reduceBNe, Int.reduceLT, Int.reduceLE, Int.reduceGT, Int.reduceGE, Int.reduceEq, Int.reduceAdd, Int.reduceSub, Int.reduceNeg, Int.reduceToNat, String.reduceEq, UInt8.reduceToNat, reduceCtorEq, ↓reduceIte]
        exact ⟨j + 1, by omega, ⟨by omega, by rw [ht, List.any_append, i2]; simp [hpx]⟩, by simp only [go_sem, hvs, hin, List.take_length, Option.getD_some, Nat.reduceAdd, Nat.reduceBEq, Nat.reduceBNe, Nat.reduceMul, Nat.reduceSub, Nat.reduceEqDiff, Nat.reduceLT, Nat.reduceLeDiff, Int.reduceBEq, Int.reduceBNe, Int.reduceLT, Int.reduceLE, Int.reduceGT, Int.reduceGE, Int.reduceEq, Int.reduceAdd, Int.reduceSub, Int.reduceNeg, Int.reduceToNat, String.reduceEq, UInt8.reduceToNat, reduceCtorEq, ↓reduceIte]⟩
      · simp only [go_sem, hpx, hvs, hin, List.take_length, Nat.sub_self, Option.getD_some, Nat.reduceAdd, Nat.reduceBEq, Nat.reduceBNe, Nat.reduceMul, Nat.reduceSub, Nat.reduceEqDiff, Nat.reduceLT, Nat.reduceLeDiff, Int.reduceBEq, Int.reduceBNe, Int.reduceLT, Int.reduceLE, Int.reduceGT, Int.reduceGE, Int.reduceEq, Int.reduceAdd, Int.reduceSub, Int.reduceNeg, Int.reduceToNat, String.reduceEq, UInt8.reduceToNat, reduceCtorEq, ↓reduceIte]
        exact Le.of_eq (congrArg cI (idxOf_hit hx hpx i2).symm)
    · have : j = l.length := by omega
      subst this
      rw [List.take_length] at i2
      simp only [go_sem, Nat.lt_irrefl, hvs, hin, List.take_length, Nat.sub_self, Option.getD_some, Nat.reduceAdd, Nat.reduceBEq, Nat.reduceBNe, Nat.reduceMul, Nat.reduceSub, Nat.reduceEqDiff, Nat.reduceLT, Nat.reduceLeDiff, Int.reduceBEq, Int.reduceBNe, Int.reduceLT, Int.reduceLE, Int.reduceGT, Int.reduceGE, Int.reduceEq, Int.reduceAdd, Int.reduceSub, Int.reduceNeg, Int.reduceToNat, String.reduceEq, UInt8.reduceToNat, reduceCtorEq, ↓reduceIte]
      exact Le.of_eq (congrArg cI (idxOf_none i2).symm)

set_option maxRecDepth 100000 in
theorem ContainsFunc_good (h : List ABlk) (g : FuncId) (caps : List AV) (v : AV) (hv : fnOf v = some (g, caps)) (p : Val → Bool) (l : List Val) (hp : ∀ x, x ∈ l → Good Tryz.prog g (x.av :: caps) h (cB (p x)) h) :
    Good Tryz.prog 80 [.c (rowC l), v] h (cB (l.any p)) h := by
  refine Good.scoped fun hsc hin => ?_
  simp only [AV.sc.scAll, Bool.and_true, Bool.and_eq_true] at hsc
  have hvs := hsc.2
  refine Good.of_vmQ TT 4000 Tryz.func80 rfl rfl ?_
  unfold Tryz.f80
  simp only [go_sem, Option.getD_some, Nat.reduceAdd, Nat.reduceBEq, Nat.reduceBNe, Nat.reduceMul, Nat.reduceSub, Nat.reduceEqDiff, Nat.reduceLT, Nat.reduceLeDiff, Int.reduceBEq, Int.reduceBNe, Int.reduceLT, Int.reduceLE, Int.reduceGT, Int.reduceGE, Int.reduceEq, Int.reduceAdd, Int.reduceSub, Int.reduceNeg, Int.reduceToNat, String.reduceEq, UInt8.reduceToNat, reduceCtorEq, ↓reduceIte]
  refine Cl.of TT 4000 (IndexFunc_good h g caps v hv p l hp) ?_
  simp only [go_sem, hvs, hin, List.take_length, Nat.sub_self, Option.getD_some, Nat.reduceAdd, Nat.reduceBEq, Nat.reduceBNe, Nat.reduceMul, Nat.reduceSub, Nat.reduceEqDiff, Nat.reduceLT, Nat.reduceLeDiff, Int.reduceBEq, Int.reduceBNe, Int.reduceLT, Int.reduceLE, Int.reduceGT, Int.reduceGE, Int.reduceEq, Int.reduceAdd, Int.reduceSub, Int.reduceNeg, Int.reduceToNat, String.reduceEq, UInt8.reduceToNat, reduceCtorEq, ↓reduceIte]
  exact Le.of_eq (congrArg cB (idxOf_any p l))

set_option maxRecDepth 100000 in
theorem check1_good (x : Val) (hi : I64 x.i) : Good Tryz.prog 81 [x.av] [] (cB (!x.ok)) [] := by
  refine Good.of_vmQ TT 4000 Tryz.func81 rfl rfl ?_
  unfold Tryz.f81
  simp only [go_sem, Option.getD_some, Nat.reduceAdd, Nat.reduceBEq, Nat.reduceBNe, Nat.reduceMul, Nat.reduceSub, Nat.reduceEqDiff, Nat.reduceLT, Nat.reduceLeDiff, Int.reduceBEq, Int.reduceBNe, Int.reduceLT, Int.reduceLE, Int.reduceGT, Int.reduceGE, Int.reduceEq, Int.reduceAdd, Int.reduceSub, Int.reduceNeg, Int.reduceToNat, String.reduceEq, UInt8.reduceToNat, reduceCtorEq, ↓reduceIte]
  (refine Cl.pure TT 4000 (value_Check x hi) rfl rfl ?_; simp only [go_sem, Option.getD_some, Nat.reduceAdd, Nat.reduceBEq, Nat.reduceBNe, Nat.reduceMul, Nat.reduceSub, Nat.reduceEqDiff, Nat.reduceLT, Nat.reduceLeDiff, Int.reduceBEq, Int.reduceBNe, Int.reduceLT, Int.reduceLE, Int.reduceGT, Int.reduceGE, Int.reduceEq, Int.reduceAdd, Int.reduceSub, Int.reduceNeg, Int.reduceToNat, String.reduceEq, UInt8.reduceToNat, reduceCtorEq, ↓reduceIte])
  cases h : x.ok <;> simp only [go_sem, Option.getD_some, Nat.reduceAdd, Nat.reduceBEq, Nat.reduceBNe, Nat.reduceMul, Nat.reduceSub, Nat.reduceEqDiff, Nat.reduceLT, Nat.reduceLeDiff, Int.reduceBEq, Int.reduceBNe, Int.reduceLT, Int.reduceLE, Int.reduceGT, Int.reduceGE, Int.reduceEq, Int.reduceAdd, Int.reduceSub, Int.reduceNeg, Int.reduceToNat, String.reduceEq, UInt8.reduceToNat, reduceCtorEq, ↓reduceIte]
set_option maxRecDepth 100000 in
theorem scalar_check (l : List Val) (hi : ∀ x, x ∈ l → I64 x.i) : Good Tryz.prog 42 [.c (rowC l)] [] (cB (l.all Val.ok)) [] := by
  refine Good.of_vmQ TT 4000 Tryz.func42 rfl rfl ?_
  unfold Tryz.f42
  simp only [go_sem, Option.getD_some, Nat.reduceAdd, Nat.reduceBEq, Nat.reduceBNe, Nat.reduceMul, Nat.reduceSub, Nat.reduceEqDiff, Nat.reduceLT, Nat.reduceLeDiff, Int.reduceBEq, Int.reduceBNe, Int.reduceLT, Int.reduceLE, Int.reduceGT, Int.reduceGE, Int.reduceEq, Int.reduceAdd, Int.reduceSub, Int.reduceNeg, Int.reduceToNat, String.reduceEq, UInt8.reduceToNat, reduceCtorEq, ↓reduceIte]
  refine Cl.of TT 4000 (ContainsFunc_good [] 81 [] _ rfl (fun x => !x.ok) l fun x hx => check1_good x (hi x hx)) ?_
  simp only [go_sem, Option.getD_some, Nat.reduceAdd, Nat.reduceBEq, Nat.reduceBNe, Nat.reduceMul, Nat.reduceSub, Nat.reduceEqDiff, Nat.reduceLT, Nat.reduceLeDiff, Int.reduceBEq, Int.reduceBNe, Int.reduceLT, Int.reduceLE, Int.reduceGT, Int.reduceGE, Int.reduceEq, Int.reduceAdd, Int.reduceSub, Int.reduceNeg, Int.reduceToNat, String.reduceEq, UInt8.reduceToNat, reduceCtorEq, ↓reduceIte]
  refine Le.of_eq (congrArg cB ?_)
  rw [List.all_eq_not_any_not]
set_option maxRecDepth 100000 in
theorem null1_good (x : Val) : Good Tryz.prog 86 [x.av] [] (cB (x.k == 0)) [] := by
  refine Good.of_vmQ TT 4000 Tryz.func86 rfl rfl ?_
  unfold Tryz.f86
  simp only [go_sem, Option.getD_some, Nat.reduceAdd, Nat.reduceBEq, Nat.reduceBNe, Nat.reduceMul, Nat.reduceSub, Nat.reduceEqDiff, Nat.reduceLT, Nat.reduceLeDiff, Int.reduceBEq, Int.reduceBNe, Int.reduceLT, Int.reduceLE, Int.reduceGT, Int.reduceGE, Int.reduceEq, Int.reduceAdd, Int.reduceSub, Int.reduceNeg, Int.reduceToNat, String.reduceEq, UInt8.reduceToNat, reduceCtorEq, ↓reduceIte]
set_option maxRecDepth 100000 in
theorem scalar_null (l : List Val) : Good Tryz.prog 47 [.c (rowC l)] [] (cB (l.any fun x => x.k == 0)) [] := by
  refine Good.of_vmQ TT 4000 Tryz.func47 rfl rfl ?_
  unfold Tryz.f47
  simp only [go_sem, Option.getD_some, Nat.reduceAdd, Nat.reduceBEq, Nat.reduceBNe, Nat.reduceMul, Nat.reduceSub, Nat.reduceEqDiff, Nat.reduceLT, Nat.reduceLeDiff, Int.reduceBEq, Int.reduceBNe, Int.reduceLT, Int.reduceLE, Int.reduceGT, Int.reduceGE, Int.reduceEq, Int.reduceAdd, Int.reduceSub, Int.reduceNeg, Int.reduceToNat, String.reduceEq, UInt8.reduceToNat, reduceCtorEq, ↓reduceIte]
  refine Cl.of TT 4000 (ContainsFunc_good [] 86 [] _ rfl (fun x => x.k == 0) l fun x hx => null1_good x) ?_
  simp only [go_sem, Option.getD_some, Nat.reduceAdd, Nat.reduceBEq, Nat.reduceBNe, Nat.reduceMul, Nat.reduceSub, Nat.reduceEqDiff, Nat.reduceLT, Nat.reduceLeDiff, Int.reduceBEq, Int.reduceBNe, Int.reduceLT, Int.reduceLE, Int.reduceGT, Int.reduceGE, Int.reduceEq, Int.reduceAdd, Int.reduceSub, Int.reduceNeg, Int.reduceToNat, String.reduceEq, UInt8.reduceToNat, reduceCtorEq, ↓reduceIte]
set_option maxRecDepth 100000 in
theorem scalar_num (n : Int) : Good Tryz.prog 87 [cI n] [] (Val.mk 2 n ⟨#[]⟩).av [] := by
  refine Good.of_vmQ TT 4000 Tryz.func87 rfl rfl ?_
  unfold Tryz.f87
  simp only [go_sem, Option.getD_some, Nat.reduceAdd, Nat.reduceBEq, Nat.reduceBNe, Nat.reduceMul, Nat.reduceSub, Nat.reduceEqDiff, Nat.reduceLT, Nat.reduceLeDiff, Int.reduceBEq, Int.reduceBNe, Int.reduceLT, Int.reduceLE, Int.reduceGT, Int.reduceGE, Int.reduceEq, Int.reduceAdd, Int.reduceSub, Int.reduceNeg, Int.reduceToNat, String.reduceEq, UInt8.reduceToNat, reduceCtorEq, ↓reduceIte]
set_option maxRecDepth 100000 in
theorem scalar_text (s : ByteArray) : Good Tryz.prog 148 [cS s] [] (Val.mk 3 0 s).av [] := by
  refine Good.of_vmQ TT 4000 Tryz.func148 rfl rfl ?_
  unfold Tryz.f148
  simp only [go_sem, Option.getD_some, Nat.reduceAdd, Nat.reduceBEq, Nat.reduceBNe, Nat.reduceMul, Nat.reduceSub, Nat.reduceEqDiff, Nat.reduceLT, Nat.reduceLeDiff, Int.reduceBEq, Int.reduceBNe, Int.reduceLT, Int.reduceLE, Int.reduceGT, Int.reduceGE, Int.reduceEq, Int.reduceAdd, Int.reduceSub, Int.reduceNeg, Int.reduceToNat, String.reduceEq, UInt8.reduceToNat, reduceCtorEq, ↓reduceIte]
end Go.Ev
