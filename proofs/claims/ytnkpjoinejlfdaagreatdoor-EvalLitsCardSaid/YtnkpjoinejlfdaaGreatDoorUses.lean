/-  eval.Uses: the places an expression hangs on. -/
import Derived.Test.YtnkpjoinejlfdaaGreatDoorEv
import Derived.Test.YtnkpjoinejlfdaaGreatDoorKeysG
set_option linter.all false
open Go Go.Proofs
namespace Go.Ev
theorem Expr.ind {p : Expr → Prop} (h : ∀ e, (∀ x, x ∈ e.l → p x) → p e) (e : Expr) : p e :=
  @Expr.rec (fun e => p e) (fun l => ∀ x, x ∈ l → p x) (fun op v t n l ih => h _ ih) (fun x hx => by cases hx) (fun a l ha hl x hx => by
    rcases List.mem_cons.1 hx with rfl | hx
    · exact ha
    · exact hl x hx) e
/-- A list within an argument is no longer than numbers go. -/
theorem Good.boundA {P : Program} {f : FuncId} {args us : List AV} {h h' : List ABlk} {r : AV} {sz : Nat} {x : Bool} {xs : List (List CV)} (hm : AV.agg us ∈ args) (hu : AV.c (.lst sz x xs) ∈ us) (G : xs.length ≤ 9223372036854775807 → Good P f args h r h') : Good P f args h r h' := fun w N ρ vs H hs hl hr => by
  obtain ⟨i, hi, he⟩ := List.getElem_of_mem hm
  have := hr i hi (by omega)
  rw [he] at this
  generalize vs[i] = y at this
  refine G ?_ w N ρ vs H hs hl hr
  cases this with
  | agg _ ws hl2 hr2 =>
    obtain ⟨k, hk, hke⟩ := List.getElem_of_mem hu
    have := hr2 k hk (by omega)
    rw [hke] at this
    generalize ws[k] = z at this
    cases this with
    | c h => cases h with
      | lst _ _ _ A c V hx hc hm => omega
theorem Expr.lbound {P : Program} {f : FuncId} {args : List AV} {h h' : List ABlk} {r : AV} {e : Expr} (hm : e.av ∈ args) (G : e.l.length ≤ 9223372036854775807 → Good P f args h r h') : Good P f args h r h' :=
  Good.boundA (sz := 7) (x := false) (xs := e.l.map Expr.cs) hm (by simp) fun hl => G (by simpa using hl)
def addN (n : Int) (ns : List Int) : List Int := if n ∈ ns then ns else ns ++ [n]
mutual
def Expr.uses : Expr → List Int → List Int
  | .mk op v _ _ l, ns => Expr.usesL l (if op.toList == sAt.toList then addN v.i ns else ns)
def Expr.usesL : List Expr → List Int → List Int
  | [], ns => ns
  | e :: l, ns => Expr.usesL l (e.uses ns)
end
theorem Expr.uses_eq (e : Expr) (ns : List Int) : e.uses ns = Expr.usesL e.l (if e.op.toList == sAt.toList then addN e.v.i ns else ns) := by cases e; rfl
theorem Expr.usesL_append : ∀ (l m : List Expr) (ns : List Int), Expr.usesL (l ++ m) ns = Expr.usesL m (Expr.usesL l ns)
  | [], _, _ => rfl
  | e :: l, m, ns => by simp only [List.cons_append, Expr.usesL]; exact Expr.usesL_append l m _
/-- The map's entries. -/
def esN : Nat → List Int → List (CV × AV × Nat)
  | _, [] => []
  | i, n :: ns => (.int .i64 n, cB true, i) :: esN (i + 1) ns
theorem esN_append : ∀ (i : Nat) (l m : List Int), esN i (l ++ m) = esN i l ++ esN (i + l.length) m
  | i, [], m => by simp [esN]
  | i, n :: l, m => by simp [esN, esN_append (i + 1) l m, Nat.add_comm, Nat.add_left_comm]
theorem esN_find (n : Int) : ∀ (i k : Nat) (ns : List Int), (n ∉ ns ∧ findE (.int .i64 n) (esN i ns) k = some none) ∨ (n ∈ ns ∧ ∃ j v, findE (.int .i64 n) (esN i ns) k = some (some (k + j, v)) ∧ (esN i ns).modify j (fun e => (e.1, cB true, e.2.2)) = esN i ns)
  | i, k, [] => .inl ⟨by simp, rfl⟩
  | i, k, a :: ns => by
    by_cases h : n = a
    · refine .inr ⟨by simp [h], 0, cB true, ?_, ?_⟩
      · simp [esN, findE, keyEq, h]
      · simp [esN]
    · have hb : keyEq (.int .i64 n) (.int .i64 a) = some false := by simp [keyEq, h]
      rcases esN_find n (i + 1) (k + 1) ns with ⟨h1, h2⟩ | ⟨h1, j, v, h2, h3⟩
      · refine .inl ⟨by simp [h, h1], ?_⟩
        simp only [esN, findE, hb]; exact h2
      · refine .inr ⟨by simp [h1], j + 1, v, ?_, ?_⟩
        · simp only [esN, findE, hb]; rw [h2]; congr 3; omega
        · simp only [esN, List.modify_succ_cons, h3]
theorem esN_put (n : Int) (ns : List Int) : (findE (.int .i64 n) (esN 0 ns) 0).map (fun r => [(1, putE (esN 0 ns) ns.length (.int .i64 n) (cB true) r)]) = some [(1, .mp (esN 0 (addN n ns)) (addN n ns).length)] := by
  rcases esN_find n 0 0 ns with ⟨h1, h2⟩ | ⟨h1, j, v, h2, h3⟩
  · rw [h2]; simp [putE, addN, h1, esN_append, esN]
  · rw [h2]; simp only [Option.map_some, putE, Nat.zero_add, h3, addN, h1, if_true]
theorem esN_sc (q : Nat → Bool) : ∀ (i : Nat) (ns : List Int), AV.sc.scAll q ((esN i ns).map fun e => e.snd.fst) = true
  | _, [] => rfl
  | i, n :: ns => by simp only [esN, List.map_cons, AV.sc.scAll, AV.sc, Bool.true_and, esN_sc q (i + 1) ns]
theorem esN_mapE {g : AV → AV} (h : g (cB true) = cB true) : ∀ (i : Nat) (ns : List Int), mapE g (esN i ns) = esN i ns
  | _, [] => rfl
  | i, n :: ns => by
    show (_, g (cB true), _) :: mapE g (esN (i + 1) ns) = _
    rw [h, esN_mapE h]; rfl
theorem esN_ren (f : Nat → Option Nat) (i : Nat) (ns : List Int) : List.map (fun e => (e.fst, ren f e.snd.fst, e.snd.snd)) (esN i ns) = esN i ns := esN_mapE (g := ren f) rfl i ns
theorem esN_scrub (f : Nat → Bool) (i : Nat) (ns : List Int) : List.map (fun e => (e.fst, scrub f e.snd.fst, e.snd.snd)) (esN i ns) = esN i ns := esN_mapE (g := scrub f) rfl i ns
attribute [go_sem] esN_sc esN_ren esN_scrub
abbrev usesH (ns : List Int) : List ABlk := [.box [.mp 1], .mp (esN 0 ns) ns.length, .box [.fn 34 [.ptr 0 0, .ptr 2 0]]]
set_option maxRecDepth 100000 in
set_option maxHeartbeats 4000000 in
theorem uses1_good (e : Expr) : ∀ ns, Good Tryz.prog 34 [e.av, .ptr 0 0, .ptr 2 0] (usesH ns) (.tup []) (usesH (e.uses ns)) := by
  induction e using Expr.ind with
  | h e ih =>
  intro ns
  refine Expr.lbound (e := e) (by simp) fun hl => ?_
  refine Good.of_vmQ TT 4000 Tryz.func34 rfl rfl ?_
  unfold Tryz.f34
  rw [Expr.uses_eq]
  cases ho : (e.op.toList == sAt.toList)
  case' false => simp only [go_sem, ho, Bool.false_eq_true, Option.getD_some, Nat.reduceAdd, Nat.reduceBEq, Nat.reduceBNe, Nat.reduceMul, Nat.reduceSub, Nat.reduceEqDiff, Nat.reduceLT, Nat.reduceLeDiff, Int.reduceBEq, Int.reduceBNe, Int.reduceLT, Int.reduceLE, Int.reduceGT, Int.reduceGE, Int.reduceEq, Int.reduceAdd, Int.reduceSub, Int.reduceNeg, Int.reduceToNat, String.reduceEq, UInt8.reduceToNat, reduceCtorEq, ↓reduceIte]
  case' true => simp only [go_sem, ho, esN_put, Option.getD_some, Nat.reduceAdd, Nat.reduceBEq, Nat.reduceBNe, Nat.reduceMul, Nat.reduceSub, Nat.reduceEqDiff, Nat.reduceLT, Nat.reduceLeDiff, Int.reduceBEq, Int.reduceBNe, Int.reduceLT, Int.reduceLE, Int.reduceGT, Int.reduceGE, Int.reduceEq, Int.reduceAdd, Int.reduceSub, Int.reduceNeg, Int.reduceToNat, String.reduceEq, UInt8.reduceToNat, reduceCtorEq, ↓reduceIte]; generalize addN e.v.i ns = ns
  all_goals
    refine Lp.at TT 4000 4 (Nat.le_of_ble_eq_true rfl) [false, false, false, false, false, true, false, false, false, false, false, false, false, false, false, false, true, true, true, true, true, true, true, true] (fun j : Nat => e.l.length - j) (fun j => j ≤ e.l.length) (fun j => [(16, cI j)]) (fun j => [(1, .mp (esN 0 (Expr.usesL (e.l.take j) ns)) (Expr.usesL (e.l.take j) ns).length)]) (0) (Nat.zero_le _) ?_ ?_
    · simp only [go_sem, Expr.usesL, Option.getD_some, Nat.reduceAdd, Nat.reduceBEq, Nat.reduceBNe, Nat.reduceMul, Nat.reduceSub, Nat.reduceEqDiff, Nat.reduceLT, Nat.reduceLeDiff, Int.reduceBEq, Int.reduceBNe, Int.reduceLT, Int.reduceLE, Int.reduceGT, Int.reduceGE, Int.reduceEq, Int.reduceAdd, Int.reduceSub, Int.reduceNeg, Int.reduceToNat, String.reduceEq, UInt8.reduceToNat, reduceCtorEq, ↓reduceIte]
    · rintro j i1
      rcases Nat.lt_or_ge j e.l.length with hlt | hge
      · obtain ⟨x, hx, hm, ht, hd⟩ := getS hlt
        simp only [go_sem, hlt, hx, Option.getD_some, Nat.reduceAdd, Nat.reduceBEq, Nat.reduceBNe, Nat.reduceMul, Nat.reduceSub, Nat.reduceEqDiff, Nat.reduceLT, Nat.reduceLeDiff, Int.reduceBEq, Int.reduceBNe, Int.reduceLT, Int.reduceLE, Int.reduceGT, Int.reduceGE, Int.reduceEq, Int.reduceAdd, Int.reduceSub, Int.reduceNeg, Int.reduceToNat, String.reduceEq, UInt8.reduceToNat, reduceCtorEq, ↓reduceIte]
        refine Cl.frame TT 4000 [0, 1, 2] (ih x hm (Expr.usesL (e.l.take j) ns)) rfl rfl (by simp only [go_sem, Option.getD_some, Nat.reduceAdd, Nat.reduceBEq, Nat.reduceBNe, Nat.reduceMul, Nat.reduceSub, Nat.reduceEqDiff, Nat.reduceLT, Nat.reduceLeDiff, Int.reduceBEq, Int.reduceBNe, Int.reduceLT, Int.reduceLE, Int.reduceGT, Int.reduceGE, Int.reduceEq, Int.reduceAdd, Int.reduceSub, Int.reduceNeg, Int.reduceToNat, String.reduceEq, UInt8.reduceToNat, reduceCtorEq, ↓reduceIte]) (Nat.le_refl _) ?_
        simp only [go_sem, hlt, Option.getD_some, Nat.reduceAdd, Nat.reduceBEq, Nat.reduceBNe, Nat.reduceMul, Nat.reduceSub, Nat.reduceEqDiff, Nat.reduceLT, Nat.reduceLeDiff, Int.reduceBEq, Int.reduceBNe, Int.reduceLT, Int.reduceLE, Int.reduceGT, Int.reduceGE, Int.reduceEq, Int.reduceAdd, Int.reduceSub, Int.reduceNeg, Int.reduceToNat, String.reduceEq, UInt8.reduceToNat, reduceCtorEq, ↓reduceIte]
        exact ⟨j + 1, by omega, by omega, Fit1.of_eq (congrArg cI (wrap_succ (by omega))), by rw [ht, Expr.usesL_append]; rfl⟩
      · have : j = e.l.length := by omega
        subst this
        simp only [go_sem, Nat.lt_irrefl, List.take_length, Option.getD_some, Nat.reduceAdd, Nat.reduceBEq, Nat.reduceBNe, Nat.reduceMul, Nat.reduceSub, Nat.reduceEqDiff, Nat.reduceLT, Nat.reduceLeDiff, Int.reduceBEq, Int.reduceBNe, Int.reduceLT, Int.reduceLE, Int.reduceGT, Int.reduceGE, Int.reduceEq, Int.reduceAdd, Int.reduceSub, Int.reduceNeg, Int.reduceToNat, String.reduceEq, UInt8.reduceToNat, reduceCtorEq, ↓reduceIte]

theorem uses_H (ns : List Int) (h : ns.Nodup) (hi : ∀ n, n ∈ ns → I64 n) (hs : ns.length ≤ 1000000) : KeyMap (esN 0 ns) ns.length := by
  have hkeys : ∀ (i : Nat) (ns : List Int), keysOf (esN i ns) = ns := fun i ns => by
    induction ns generalizing i with
    | nil => rfl
    | cons n ns ih => show n :: keysOf _ = _; rw [ih]
  have hmem : ∀ (i : Nat) (ns : List Int) e, e ∈ esN i ns → (∃ n, n ∈ ns ∧ e.1 = .int .i64 n) ∧ i ≤ e.2.2 ∧ e.2.2 < i + ns.length := fun i ns => by
    induction ns generalizing i with
    | nil => intro e h; cases h
    | cons n ns ih =>
      intro e h
      rcases List.mem_cons.1 h with rfl | h
      · exact ⟨⟨n, by simp, rfl⟩, Nat.le_refl _, by simp⟩
      · obtain ⟨⟨m, h1, h2⟩, h3, h4⟩ := ih (i + 1) e h
        exact ⟨⟨m, by simp [h1], h2⟩, by omega, by simp only [List.length_cons]; omega⟩
  have hb : ∀ (i : Nat) (ns : List Int), (esN i ns).map (fun e => e.2.2) = List.range' i ns.length := fun i ns => by
    induction ns generalizing i with
    | nil => rfl
    | cons n ns ih => simp only [esN, List.map_cons, ih, List.length_cons, List.range'_succ]
  have hlen : (esN 0 ns).length = ns.length := by
    have := congrArg List.length (hb 0 ns)
    simpa using this
  refine ⟨fun e he => ?_, by rw [hkeys]; exact h, fun e he => by have := (hmem 0 ns e he).2.2; omega, by rw [hb]; exact List.nodup_range', by omega⟩
  obtain ⟨⟨n, h1, h2⟩, _⟩ := hmem 0 ns e he
  refine ⟨n, h2, ?_⟩
  have := hi n h1
  clear h2 hmem hb hkeys
  unfold I64 at this
  have q1 : IntKind.min .i64 = -9223372036854775808 := by decide
  have q2 : IntKind.max .i64 = 9223372036854775807 := by decide
  simp only [Lit.wf, q1, q2, Bool.and_eq_true, decide_eq_true_eq]
  omega
theorem esN_keys : ∀ (i : Nat) (ns : List Int), keysOf (esN i ns) = ns
  | _, [] => rfl
  | i, n :: ns => by show n :: keysOf _ = _; rw [esN_keys]
/-- The places of an expression, in order. -/
def Expr.places (e : Expr) : List Int := (e.uses []).mergeSort leI
set_option maxRecDepth 100000 in
theorem mkeys_good (ns : List Int) : Good Tryz.prog 36 [.mp 0] [.mp (esN 0 ns) ns.length] (.fn 75 [.ptr 1 0]) [.mp (esN 0 ns) ns.length, .box [.mp 0]] := by
  refine Good.of_vmA TT 4000 [1] Tryz.func36 rfl rfl ?_
  unfold Tryz.f36
  simp only [go_sem, Option.getD_some, Nat.reduceAdd, Nat.reduceBEq, Nat.reduceBNe, Nat.reduceMul, Nat.reduceSub, Nat.reduceEqDiff, Nat.reduceLT, Nat.reduceLeDiff, Int.reduceBEq, Int.reduceBNe, Int.reduceLT, Int.reduceLE, Int.reduceGT, Int.reduceGE, Int.reduceEq, Int.reduceAdd, Int.reduceSub, Int.reduceNeg, Int.reduceToNat, String.reduceEq, UInt8.reduceToNat, reduceCtorEq, ↓reduceIte]
  rfl
set_option maxRecDepth 100000 in
set_option maxHeartbeats 4000000 in
theorem uses_good (e : Expr) (h : (e.uses []).Nodup) (hi : ∀ n, n ∈ e.uses [] → I64 n) (hs : (e.uses []).length ≤ 1000000) : Good Tryz.prog 15 [e.av] [] (sortedAV e.places) [] := by
  refine Good.of_vmQ TT 4000 Tryz.func15 rfl rfl ?_
  unfold Tryz.f15
  simp only [go_sem, Option.getD_some, Nat.reduceAdd, Nat.reduceBEq, Nat.reduceBNe, Nat.reduceMul, Nat.reduceSub, Nat.reduceEqDiff, Nat.reduceLT, Nat.reduceLeDiff, Int.reduceBEq, Int.reduceBNe, Int.reduceLT, Int.reduceLE, Int.reduceGT, Int.reduceGE, Int.reduceEq, Int.reduceAdd, Int.reduceSub, Int.reduceNeg, Int.reduceToNat, String.reduceEq, UInt8.reduceToNat, reduceCtorEq, ↓reduceIte]
  refine Cl.frame TT 4000 [3, 2, 4] (uses1_good e []) rfl rfl (by simp only [go_sem, Option.getD_some, Nat.reduceAdd, Nat.reduceBEq, Nat.reduceBNe, Nat.reduceMul, Nat.reduceSub, Nat.reduceEqDiff, Nat.reduceLT, Nat.reduceLeDiff, Int.reduceBEq, Int.reduceBNe, Int.reduceLT, Int.reduceLE, Int.reduceGT, Int.reduceGE, Int.reduceEq, Int.reduceAdd, Int.reduceSub, Int.reduceNeg, Int.reduceToNat, String.reduceEq, UInt8.reduceToNat, reduceCtorEq, ↓reduceIte]; rfl) (Nat.le_refl _) ?_
  simp only [go_sem, Option.getD_some, Nat.reduceAdd, Nat.reduceBEq, Nat.reduceBNe, Nat.reduceMul, Nat.reduceSub, Nat.reduceEqDiff, Nat.reduceLT, Nat.reduceLeDiff, Int.reduceBEq, Int.reduceBNe, Int.reduceLT, Int.reduceLE, Int.reduceGT, Int.reduceGE, Int.reduceEq, Int.reduceAdd, Int.reduceSub, Int.reduceNeg, Int.reduceToNat, String.reduceEq, UInt8.reduceToNat, reduceCtorEq, ↓reduceIte]
  refine Cl.frame TT 4000 [2] (mkeys_good (e.uses [])) rfl rfl (by simp only [go_sem, Option.getD_some, Nat.reduceAdd, Nat.reduceBEq, Nat.reduceBNe, Nat.reduceMul, Nat.reduceSub, Nat.reduceEqDiff, Nat.reduceLT, Nat.reduceLeDiff, Int.reduceBEq, Int.reduceBNe, Int.reduceLT, Int.reduceLE, Int.reduceGT, Int.reduceGE, Int.reduceEq, Int.reduceAdd, Int.reduceSub, Int.reduceNeg, Int.reduceToNat, String.reduceEq, UInt8.reduceToNat, reduceCtorEq, ↓reduceIte]) (Nat.le_of_ble_eq_true rfl) ?_
  simp only [go_sem, Option.getD_some, Nat.reduceAdd, Nat.reduceBEq, Nat.reduceBNe, Nat.reduceMul, Nat.reduceSub, Nat.reduceEqDiff, Nat.reduceLT, Nat.reduceLeDiff, Int.reduceBEq, Int.reduceBNe, Int.reduceLT, Int.reduceLE, Int.reduceGT, Int.reduceGE, Int.reduceEq, Int.reduceAdd, Int.reduceSub, Int.reduceNeg, Int.reduceToNat, String.reduceEq, UInt8.reduceToNat, reduceCtorEq, ↓reduceIte]
  have K := good_sortedKeys (uses_H (e.uses []) h hi hs)
  rw [esN_keys] at K
  refine Cl.frame TT 4000 [5, 2] K rfl rfl (by simp only [go_sem, Option.getD_some, Nat.reduceAdd, Nat.reduceBEq, Nat.reduceBNe, Nat.reduceMul, Nat.reduceSub, Nat.reduceEqDiff, Nat.reduceLT, Nat.reduceLeDiff, Int.reduceBEq, Int.reduceBNe, Int.reduceLT, Int.reduceLE, Int.reduceGT, Int.reduceGE, Int.reduceEq, Int.reduceAdd, Int.reduceSub, Int.reduceNeg, Int.reduceToNat, String.reduceEq, UInt8.reduceToNat, reduceCtorEq, ↓reduceIte]) (Nat.le_of_ble_eq_true rfl) ?_
  unfold Expr.places
  have hp : ∃ c, sortedAV (List.mergeSort (e.uses []) leI) = .c c := by
    cases List.mergeSort (e.uses []) leI with
    | nil => exact ⟨_, rfl⟩
    | cons a l => exact ⟨_, rfl⟩
  obtain ⟨c, hc⟩ := hp
  simp only [go_sem, hc, Option.getD_some, Nat.reduceAdd, Nat.reduceBEq, Nat.reduceBNe, Nat.reduceMul, Nat.reduceSub, Nat.reduceEqDiff, Nat.reduceLT, Nat.reduceLeDiff, Int.reduceBEq, Int.reduceBNe, Int.reduceLT, Int.reduceLE, Int.reduceGT, Int.reduceGE, Int.reduceEq, Int.reduceAdd, Int.reduceSub, Int.reduceNeg, Int.reduceToNat, String.reduceEq, UInt8.reduceToNat, reduceCtorEq, ↓reduceIte]
end Go.Ev
