import Derived.Test.YtnkpjoinejlfdaaGreatDoorMk2
section
set_option linter.all false
set_option linter.all false
open Go Go.Proofs
namespace Go.Ev
theorem mem_addN {v n : Int} {ns : List Int} : n ∈ addN v ns ↔ n ∈ ns ∨ n = v := by
  unfold addN
  split
  · rename_i h
    constructor
    · exact Or.inl
    · rintro (h1 | rfl)
      · exact h1
      · simpa using h
  · simp [or_comm]
theorem uses_mem (e : Expr) : ∀ (ns : List Int) (n : Int), n ∈ ns → n ∈ e.uses ns := by
  induction e using Expr.ind with
  | h e ih =>
    intro ns n hn
    rw [Expr.uses_eq]
    have key : ∀ (l : List Expr) (ms : List Int), (∀ x, x ∈ l → ∀ (ns : List Int) (n : Int), n ∈ ns → n ∈ x.uses ns) → n ∈ ms → n ∈ Expr.usesL l ms := fun l => by
      induction l with
      | nil => intro ms _ h; exact h
      | cons x l ihl => intro ms h hm; rw [Expr.usesL]; exact ihl _ (fun y hy => h y (by simp [hy])) (h x (by simp) ms n hm)
    refine key e.l _ ih ?_
    split
    · exact mem_addN.2 (.inl hn)
    · exact hn
theorem usesL_mem : ∀ (l : List Expr) (ns : List Int) (n : Int), n ∈ ns → n ∈ Expr.usesL l ns
  | [], ns, n, h => h
  | x :: l, ns, n, h => by rw [Expr.usesL]; exact usesL_mem l _ n (uses_mem x ns n h)
theorem uses_all (e : Expr) : ∀ (ns : List Int), Expr.All (fun x => (x.op.toList == sAt.toList) = true → x.v.i ∈ e.uses ns) e := by
  induction e using Expr.ind with
  | h e ih =>
    intro ns
    rw [Expr.uses_eq, Expr.All_iff]
    refine ⟨fun ho => ?_, ?_⟩
    · rw [if_pos ho]; exact usesL_mem _ _ _ (mem_addN.2 (.inr rfl))
    · generalize (if e.op.toList == sAt.toList then addN e.v.i ns else ns) = ms
      have key : ∀ (l : List Expr) (ms : List Int), (∀ x, x ∈ l → x ∈ e.l) → ∀ x, x ∈ l → Expr.All (fun y => (y.op.toList == sAt.toList) = true → y.v.i ∈ Expr.usesL l ms) x := fun l => by
        induction l with
        | nil => intro ms _ x hx; cases hx
        | cons x l ihl =>
          intro ms h y hy
          rw [Expr.usesL]
          rcases List.mem_cons.1 hy with rfl | hy
          · exact (ih y (h y (by simp)) ms).imp fun z hz ho => usesL_mem _ _ _ (hz ho)
          · exact ihl _ (fun z hz => h z (by simp [hz])) y hy
      exact key e.l ms (fun x hx => hx)
theorem uses_from (q : Int → Prop) (e : Expr) : Expr.All (fun x => (x.op.toList == sAt.toList) = true → q x.v.i) e → ∀ ns : List Int, (∀ n, n ∈ ns → q n) → ∀ n, n ∈ e.uses ns → q n := by
  induction e using Expr.ind with
  | h e ih =>
    intro ha ns hns
    rw [Expr.All_iff] at ha
    rw [Expr.uses_eq]
    have key : ∀ (l : List Expr) (ms : List Int), (∀ x, x ∈ l → x ∈ e.l) → (∀ n, n ∈ ms → q n) → ∀ n, n ∈ Expr.usesL l ms → q n := fun l => by
      induction l with
      | nil => intro ms _ h; exact h
      | cons x l ihl => intro ms h hm; rw [Expr.usesL]; exact ihl _ (fun y hy => h y (by simp [hy])) (ih x (h x (by simp)) (ha.2 x (h x (by simp))) ms hm)
    refine key e.l _ (fun x hx => hx) ?_
    split
    · rename_i ho
      intro n hn
      rcases mem_addN.1 hn with h | rfl
      · exact hns n h
      · exact ha.1 ho
    · exact hns
theorem nodup_addN {v : Int} {ns : List Int} (h : ns.Nodup) : (addN v ns).Nodup := by
  unfold addN
  split
  · exact h
  · rename_i h1
    have h2 : v ∉ ns := by simpa using h1
    exact List.nodup_append.2 ⟨h, by simp, fun a ha b hb hab => h2 (by rw [List.mem_singleton] at hb; rw [← hb, ← hab]; exact ha)⟩
theorem uses_nodup (e : Expr) : ∀ ns : List Int, ns.Nodup → (e.uses ns).Nodup := by
  induction e using Expr.ind with
  | h e ih =>
    intro ns hns
    rw [Expr.uses_eq]
    have key : ∀ (l : List Expr) (ms : List Int), (∀ x, x ∈ l → x ∈ e.l) → ms.Nodup → (Expr.usesL l ms).Nodup := fun l => by
      induction l with
      | nil => intro ms _ h; exact h
      | cons x l ihl => intro ms h hm; rw [Expr.usesL]; exact ihl _ (fun y hy => h y (by simp [hy])) (ih x (h x (by simp)) ms hm)
    refine key e.l _ (fun x hx => hx) ?_
    split
    · exact nodup_addN hns
    · exact hns
theorem addN_len {v : Int} {ns : List Int} : (addN v ns).length ≤ ns.length + 1 := by
  unfold addN; split <;> simp
theorem uses_len (e : Expr) : ∀ ns : List Int, (e.uses ns).length ≤ ns.length + e.nodes := by
  induction e using Expr.ind with
  | h e ih =>
    intro ns
    rw [Expr.uses_eq, nodes_eq]
    have key : ∀ (l : List Expr) (ms : List Int), (∀ x, x ∈ l → x ∈ e.l) → (Expr.usesL l ms).length ≤ ms.length + Expr.nodesL l := fun l => by
      induction l with
      | nil => intro ms _; exact Nat.le_add_right ..
      | cons x l ihl =>
        intro ms h; rw [Expr.usesL, Expr.nodesL]
        have h1 := ihl (x.uses ms) (fun y hy => h y (by simp [hy]))
        have h2 := ih x (h x (by simp)) ms
        omega
    have h3 := key e.l (if e.op.toList == sAt.toList then addN e.v.i ns else ns) (fun x hx => hx)
    have h4 : (if e.op.toList == sAt.toList then addN e.v.i ns else ns).length ≤ ns.length + 1 := by
      split
      · exact addN_len
      · omega
    omega
end Go.Ev
end
section
set_option linter.all false
set_option linter.all false
open Go Go.Proofs
namespace Go.Ev
def tRow (us : List Int) (r s : List Val) : Nat → List Val
  | 0 => r
  | j + 1 => if us.contains (j : Int) then tRow us r s j else match s[j]? with
    | some v => (tRow us r s j).set j v
    | none => tRow us r s j
theorem tRow_len (us : List Int) (r s : List Val) : ∀ j, (tRow us r s j).length = r.length
  | 0 => rfl
  | j + 1 => by
    rw [tRow]
    split
    · exact tRow_len us r s j
    · split
      · rw [List.length_set]; exact tRow_len us r s j
      · exact tRow_len us r s j
theorem tRow_get (us : List Int) (r s : List Val) (i : Nat) (hi : (i : Int) ∈ us) : ∀ j, (tRow us r s j)[i]? = r[i]?
  | 0 => rfl
  | j + 1 => by
    rw [tRow]
    split
    · exact tRow_get us r s i hi j
    · rename_i hc
      split
      · rw [List.getElem?_set_ne (fun h => hc (by subst h; simpa using hi))]; exact tRow_get us r s i hi j
      · exact tRow_get us r s i hi j
def placesC (l : List Int) : CV := .lst 1 false (l.map fun n => [.int .i64 n])
theorem sorted_le (l : List Int) : Le (sortedAV l) (.c (placesC l)) := by
  cases l with
  | nil => exact Le.c (CLe.nl 1 false)
  | cons a l => exact Le.refl _
set_option maxRecDepth 100000 in
set_option maxHeartbeats 4000000 in
theorem evalUses_good (L : Good Tryz.prog 7 [] [] (cB true) []) (e : Expr) (r s : List Val) (he : Expr.All (fun x => I64 x.v.i) e) (hr : ∀ x, x ∈ r → I64 x.i) (hrs : ∀ x, x ∈ r → x.s.size ≤ 281474976710656) (hss : ∀ x, x ∈ s → x.s.size ≤ 281474976710656) :
    Good Tryz.prog 4 [e.av, .c (rowC r), .c (rowC s)] [] (cB true) [] := by
  refine Good.of_vmQ TT 8000 Tryz.func4 rfl rfl ?_
  unfold Tryz.f4
  simp only [go_sem, Option.getD_some, go_sem_proc]
  refine Cl.pure TT 8000 L rfl rfl ?_
  simp only [go_sem, Option.getD_some, go_sem_proc]
  have B1 := big_good r [e] hrs (by simp)
  rw [one_cs] at B1
  refine Cl.pure TT 8000 B1 rfl rfl ?_
  cases c1 : bigB r [e]
  case true => simp only [go_sem, c1, Option.getD_some, go_sem_proc]
  simp only [go_sem, c1, Option.getD_some, go_sem_proc]
  have B3 := big_good s [] hss (by simp)
  have B4 : Good Tryz.prog 8 [.c (rowC s), .c .nl] [] (cB (bigB s [])) [] := Good.le_args (.cons (Le.refl _) (.cons (Le.c (CLe.nl 7 false)) .nil)) B3
  refine Cl.pure TT 8000 B4 rfl rfl ?_
  cases c2 : bigB s []
  case true => simp only [go_sem, c1, c2, Option.getD_some, go_sem_proc]
  obtain ⟨⟨r1, r2⟩, e1⟩ := big_no c1
  obtain ⟨e1, e2⟩ := e1 e (by simp)
  obtain ⟨⟨a1, a2⟩, _⟩ := big_no c2
  simp only [go_sem, c1, c2, Option.getD_some, go_sem_proc]
  have B2 := wide_good r [e] (fun x hx => by rw [List.mem_singleton] at hx; subst hx; omega) (by simp)
  rw [one_cs] at B2
  refine Cl.pure TT 8000 B2 rfl rfl ?_
  cases c3 : wideB r [e]
  case false => simp only [go_sem, c1, c2, c3, Option.getD_some, go_sem_proc]
  obtain ⟨w1, w2⟩ := wide_yes c3
  simp only [go_sem, c1, c2, c3, Option.getD_some, go_sem_proc]
  refine Cl.pure TT 8000 (ref_CheckRow s) rfl rfl ?_
  by_cases c4 : checkRowS s = 0
  case neg =>
    have c4' : (checkRowS s != 0) = true := bne_iff_ne.2 c4
    simp only [go_sem, c1, c2, c3, c4', Option.getD_some, go_sem_proc]
  have e3 : Expr.All (fun x => I64 x.v.i ∧ x.v.s.size ≤ 100000) e := (he.and (light_all e e2)).imp fun x h => ⟨h.1, by omega⟩
  have hall : Expr.All (fun x => (x.op.toList == sAt.toList) = true → 0 ≤ x.v.i ∧ x.v.i < r.length) e := w1.imp fun x h ho => atB_at (h ho)
  have hin := uses_from (fun n => 0 ≤ n ∧ n < r.length) e hall [] (fun n hn => by cases hn)
  have U : Good Tryz.prog 15 [e.av] [] (.c (placesC e.places)) [] := Good.le (sorted_le _) (uses_good e (uses_nodup e [] List.nodup_nil) (fun n hn => by have := hin n hn; unfold I64; omega) (by have := uses_len e []; simp only [List.length_nil] at this; omega))
  have hka : ((List.map Val.cs r).all fun y => y.length == 3) = true := List.all_eq_true.2 fun y hy => by
    obtain ⟨z, _, rfl⟩ := List.mem_map.1 hy; rfl
  simp only [go_sem, c1, c2, c3, c4, hka, Nat.zero_add, Option.getD_some, go_sem_proc]
  refine ⟨by omega, ?_⟩
  refine Cl.pure TT 8000 U rfl rfl ?_
  have hpl : e.places.length ≤ 60 := by
    unfold Expr.places; rw [List.length_mergeSort]
    have := uses_len e []; simp only [List.length_nil] at this; omega
  have hall2 : Expr.All (fun x => (x.op.toList == sAt.toList) = true → x.v.i ∈ e.places) e := (uses_all e []).imp fun x h ho => by
    unfold Expr.places; exact List.mem_mergeSort.2 (h ho)
  simp only [go_sem, placesC, Option.getD_some, go_sem_proc]
  generalize e.places = us at hpl hall2 ⊢
  refine Lp.at TT 4000 4 (Nat.le_of_ble_eq_true rfl) [false, false, false, false, false, false, false, false, false, false, true, true, false, true, false, false, false, false, false, false, false, false, false, false, false, false, false, false, false, false, false, false, false, false, false, false, false, false, false, false, false, false, false, false, false, false, true, true, true, true, true, true, true, true, true, true, true, true, true, true, true, true, true, true, true, true, true, true, true, true, true, true, true, true, true, true, true, true] (fun j : Nat => r.length - j) (fun j => j ≤ r.length) (fun j => [(46, cI j)]) (fun j => [(3, .rows 3 23 ((tRow us r s j).map Val.cs))]) (0) (Nat.zero_le _) ?_ ?_
  · simp only [go_sem, tRow, Option.getD_some, go_sem_proc]
  · rintro j i1
    have hT := tRow_len us r s j
    rcases Nat.lt_or_ge j r.length with hlt | hge
    · have hw := wrap_succ (j := j) (by omega)
      simp only [go_sem, hlt, Option.getD_some, go_sem_proc]
      refine Lp.at TT 4000 4 (Nat.le_of_ble_eq_true rfl) [false, false, false, false, false, false, false, false, false, false, false, true, false, true, false, false, false, false, false, false, false, false, false, false, false, false, false, false, false, false, false, false, false, false, false, false, false, false, false, false, false, false, false, false, false, false, false, false, false, false, false, true, true, true, true, true, true, true, true, true, true, true] (fun i : Nat => us.length - i) (fun i => i ≤ us.length) (fun i => [(11, cB ((us.take i).contains (j : Int))), (51, cI i)]) (fun _ => []) (0) (Nat.zero_le _) ?_ ?_
      · simp only [go_sem, Option.getD_some, go_sem_proc]
      · rintro i k1
        rcases Nat.lt_or_ge i us.length with hlt2 | hge2
        · obtain ⟨x, hx, hm, ht, hd⟩ := getS hlt2
          have hw2 := wrap_succ (j := i) (by omega)
          have hnx : (us.take (i + 1)).contains (j : Int) = ((us.take i).contains (j : Int) || (x == (j : Int))) := by
            rw [ht, Bool.eq_iff_iff, Bool.or_eq_true, List.contains_iff_mem, List.contains_iff_mem, List.mem_append, List.mem_singleton, beq_iff_eq]; exact ⟨fun h => h.imp id Eq.symm, fun h => h.imp id Eq.symm⟩
          cases hcu : (us.take i).contains (j : Int)
          · simp only [go_sem, hlt2, hx, hcu, hw2, Option.getD_some, go_sem_proc]
            exact ⟨i + 1, by omega, by omega, Fit1.of_eq (by rw [hnx, hcu]; rfl), Fit1.of_eq rfl⟩
          · simp only [go_sem, hlt2, hx, hcu, hw2, Option.getD_some, go_sem_proc]
            exact ⟨i + 1, by omega, by omega, Fit1.of_eq (by rw [hnx, hcu]; rfl), Fit1.of_eq rfl⟩
        · have : i = us.length := by omega
          subst this
          rw [List.take_length]
          cases hcu : us.contains (j : Int)
          · rcases Nat.lt_or_ge j s.length with h3 | h3
            · obtain ⟨v, hv, _⟩ := getS h3
              have hTj : j < (tRow us r s j).length := by omega
              have ht : tRow us r s (j + 1) = (tRow us r s j).set j v := by rw [tRow, hcu, hv]; rfl
              have hms : List.set (List.map Val.cs (tRow us r s j)) j [.int .i64 v.k, .int .i64 v.i, .str v.s] = List.map Val.cs (tRow us r s (j + 1)) := by rw [ht, List.map_set]; rfl
              obtain ⟨y, hy⟩ : ∃ y, (tRow us r s j)[j]? = some y := ⟨_, List.getElem?_eq_getElem hTj⟩
              simp only [go_sem, Nat.lt_irrefl, hcu, h3, hv, hlt, hT, hy, hms, hw, Nat.zero_add, List.length_map, Option.getD_some, go_sem_proc]
              exact ⟨j + 1, by omega, by omega, Fit1.of_eq rfl, rfl⟩
            · have ht : tRow us r s (j + 1) = tRow us r s j := by rw [tRow, hcu, List.getElem?_eq_none h3]; rfl
              have h4 : ¬ j < s.length := by omega
              simp only [go_sem, Nat.lt_irrefl, hcu, h4, hw, Option.getD_some, go_sem_proc]
              exact ⟨j + 1, by omega, by omega, Fit1.of_eq rfl, by rw [ht]⟩
          · have ht : tRow us r s (j + 1) = tRow us r s j := by rw [tRow, if_pos hcu]
            simp only [go_sem, Nat.lt_irrefl, hcu, hw, Option.getD_some, go_sem_proc]
            exact ⟨j + 1, by omega, by omega, Fit1.of_eq rfl, by rw [ht]⟩
    · have : j = r.length := by omega
      subst this
      have hB : Expr.All (fun x => AtIn r.length x ∧ ((x.op.toList == sAt.toList) = true → (tRow us r s r.length)[x.v.i.toNat]? = r[x.v.i.toNat]?)) e := (w1.and hall2).imp fun x h => ⟨h.1, fun ho => tRow_get us r s _ (by rw [Int.toNat_of_nonneg (atB_at (h.1 ho)).1]; exact h.2 ho) _⟩
      obtain ⟨p, _, P1, P2⟩ := both_same (fun v hv => ⟨hr v hv, by have := r2 v hv; omega⟩) e e1 hB e3
      simp only [go_sem, Nat.lt_irrefl, Option.getD_some, go_sem_proc]
      refine Cl.pure TT 8000 P1 rfl rfl ?_
      generalize tRow us r s r.length = t at P2 hT ⊢
      have hT2 : List.take r.length (List.map Val.cs t) = List.map Val.cs t := List.take_of_length_le (by simp [hT])
      simp only [go_sem, hT, hT2, List.length_map, Nat.zero_add, Nat.le_refl, Option.getD_some, go_sem_proc]
      refine Cl.pure TT 8000 P2 (by simp only [go_sem, hT, hT2, List.length_map, Nat.zero_add, Nat.le_refl, Option.getD_some, go_sem_proc]) rfl ?_
      simp only [go_sem, Option.getD_some, go_sem_proc]
end Go.Ev
end
