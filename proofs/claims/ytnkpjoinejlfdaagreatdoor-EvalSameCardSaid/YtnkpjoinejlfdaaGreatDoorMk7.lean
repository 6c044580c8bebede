import Derived.Test.YtnkpjoinejlfdaaGreatDoorMr3
import Derived.Test.YtnkpjoinejlfdaaGreatDoorMk3
section
set_option linter.all false
set_option linter.all false
open Go Go.Proofs
namespace Go.Ev
set_option maxRecDepth 100000 in
set_option maxHeartbeats 2000000 in
theorem expr_Deep (e : Expr) : e.nodes ≤ 1000000 → Good Tryz.prog 72 [e.av] [] (cI (deepE e)) [] := by
  induction e using Expr.ind with
  | h e ih =>
  intro hn
  have hl : e.l.length ≤ 1000000 := by have := nodesL_len e.l; rw [nodes_eq] at hn; omega
  have hdn := deep_nodes e
  refine Good.of_vmQ TT 4000 Tryz.func72 rfl rfl ?_
  unfold Tryz.f72
  simp only [go_sem, Option.getD_some, go_sem_proc]
  rw [deepE_eq] at hdn ⊢
  refine Lp.at TT 4000 1 (Nat.le_of_ble_eq_true rfl) [false, false, false, true, false, true, false, false, false, true, true, true, true, true, true, true, true, true] (fun j : Nat => e.l.length - j) (fun j => j ≤ e.l.length) (fun j => [(3, cI (deepL (e.l.take j))), (9, cI j)]) (fun _ => []) (0) (Nat.zero_le _) ?_ ?_
  · simp only [go_sem, deepL, Option.getD_some, go_sem_proc]
  · rintro j i1
    rcases Nat.lt_or_ge j e.l.length with hlt | hge
    · obtain ⟨x, hx, hm, ht, hd⟩ := getS hlt
      have hw := wrap_succ (j := j) (by omega)
      simp only [go_sem, hlt, hx, Option.getD_some, go_sem_proc]
      refine Cl.pure TT 4000 (ih x hm (by have := nodesL_mem hm; rw [nodes_eq] at hn; omega)) rfl rfl ?_
      have hmx : (max ((deepL (e.l.take j) : Nat) : Int) (deepE x : Int)) = ((deepL (e.l.take (j + 1)) : Nat) : Int) := by
        rw [ht, deepL_append]
        simp only [deepL]
        omega
      simp only [go_sem, hw, hmx, Option.getD_some, go_sem_proc]
      exact ⟨j + 1, by omega, by omega, Fit1.of_eq rfl, Fit1.of_eq rfl⟩
    · have : j = e.l.length := by omega
      subst this
      have hw2 := wrap_succ (j := deepL e.l) (by omega)
      simp only [go_sem, Nat.lt_irrefl, List.take_length, hw2, Option.getD_some, go_sem_proc]
set_option maxRecDepth 100000 in
theorem eval_aggregates (s : ByteArray) : Good Tryz.prog 70 [cS s] [] (cB (inB7 s aggL)) [] := by
  refine Good.of_vmQ TT 4000 Tryz.func70 rfl rfl ?_
  unfold Tryz.f70
  have k : inB7 s aggL = ((s.toList == (⟨#[99, 111, 117, 110, 116]⟩ : ByteArray).toList) || ((s.toList == (⟨#[115, 117, 109]⟩ : ByteArray).toList) || ((s.toList == (⟨#[109, 105, 110]⟩ : ByteArray).toList) || ((s.toList == (⟨#[109, 97, 120]⟩ : ByteArray).toList) || false)))) := rfl
  rw [k]
  cases h1 : (s.toList == (⟨#[99, 111, 117, 110, 116]⟩ : ByteArray).toList) <;> cases h2 : (s.toList == (⟨#[115, 117, 109]⟩ : ByteArray).toList) <;> cases h3 : (s.toList == (⟨#[109, 105, 110]⟩ : ByteArray).toList) <;> cases h4 : (s.toList == (⟨#[109, 97, 120]⟩ : ByteArray).toList) <;> simp only [go_sem, h1, h2, h3, h4, Option.getD_some, go_sem_proc]
end Go.Ev
end
section
set_option linter.all false
set_option linter.all false
open Go Go.Proofs
namespace Go.Ev
theorem letter_tab : ((List.range 256).all fun k => (decide (97 ≤ bits BinOp.or IntKind.u8 (k : Int) 32) && decide (bits BinOp.or IntKind.u8 (k : Int) 32 ≤ 122) || ((k : Int) == 95)) == letB (k : Int)) = true := by kernel_rfl
theorem letter_eq {c : Nat} (h : c < 256) : (decide (97 ≤ bits BinOp.or IntKind.u8 (c : Int) 32) && decide (bits BinOp.or IntKind.u8 (c : Int) 32 ≤ 122) || ((c : Int) == 95)) = letB (c : Int) :=
  eq_of_beq (List.all_eq_true.1 letter_tab c (List.mem_range.2 h))
set_option maxRecDepth 100000 in
theorem token_letter (c : Nat) (h : c < 256) : Good Tryz.prog 126 [.c (.int .u8 c)] [] (cB (letB c)) [] := by
  have e := letter_eq h
  refine Good.of_vmQ TT 4000 Tryz.func126 rfl rfl ?_
  unfold Tryz.f126
  simp only [go_sem, Option.getD_some, go_sem_proc]
  by_cases h1 : 97 ≤ bits BinOp.or IntKind.u8 (c : Int) 32
  · by_cases h2 : bits BinOp.or IntKind.u8 (c : Int) 32 ≤ 122
    · have : letB (c : Int) = true := by rw [← e]; simp [h1, h2]
      simp only [go_sem, h1, h2, this, Option.getD_some, go_sem_proc]
    · have : letB (c : Int) = ((c : Int) == 95) := by rw [← e]; simp [h1, h2]
      simp only [go_sem, h1, h2, this, Option.getD_some, go_sem_proc]
  · have : letB (c : Int) = ((c : Int) == 95) := by rw [← e]; simp [h1]
    simp only [go_sem, h1, this, Option.getD_some, go_sem_proc]
set_option maxRecDepth 100000 in
theorem token_digit (c : Int) : Good Tryz.prog 127 [.c (.int .u8 c)] [] (cB (digB c)) [] := by
  refine Good.of_vmQ TT 4000 Tryz.func127 rfl rfl ?_
  unfold Tryz.f127
  simp only [go_sem, Option.getD_some, go_sem_proc]
  unfold digB
  by_cases h1 : 48 ≤ c
  · simp only [go_sem, h1, decide_true, Bool.true_and, Option.getD_some, go_sem_proc]
  · simp only [go_sem, h1, decide_false, Bool.false_and, Option.getD_some, go_sem_proc]
set_option maxRecDepth 100000 in
theorem index_none (s : ByteArray) (l : List ByteArray) (hl : l.length ≤ 1000000) (h : (l.any fun t => t.toList == s.toList) = false) : Good Tryz.prog 182 [.c (strsC l), cS s] [] (cI (-1)) [] := by
  refine Good.of_vmQ TT 4000 Tryz.func182 rfl rfl ?_
  unfold Tryz.f182
  simp only [go_sem, Option.getD_some, go_sem_proc]
  refine Lp.at TT 4000 0 (Nat.le_of_ble_eq_true rfl) [false, false, false, false, true, true, false, false, true, true, true, true, true, true, true, true, true, true, true] (fun j : Nat => l.length - j) (fun j => j ≤ l.length) (fun j => [(8, cI j)]) (fun _ => []) (0) (Nat.zero_le _) ?_ ?_
  · simp only [go_sem, Option.getD_some, go_sem_proc]
  · rintro j i1
    rcases Nat.lt_or_ge j l.length with hlt | hge
    · obtain ⟨x, hx, hm, ht, hd⟩ := getS hlt
      have hw := wrap_succ (j := j) (by omega)
      have hc : (s.toList == x.toList) = false := by
        have := List.any_eq_false.1 h x hm
        rw [beq_eq_false_iff_ne]
        intro he; apply this; rw [he]; exact beq_self_eq_true _
      simp only [go_sem, hlt, hx, hc, Option.getD_some, go_sem_proc]
      exact ⟨j + 1, by omega, by omega, Fit1.of_eq (congrArg cI hw)⟩
    · have : j = l.length := by omega
      subst this
      simp only [go_sem, Nat.lt_irrefl, Option.getD_some, go_sem_proc]
set_option maxRecDepth 100000 in
theorem contains_none (s : ByteArray) (l : List ByteArray) (hl : l.length ≤ 1000000) (h : (l.any fun t => t.toList == s.toList) = false) : Good Tryz.prog 163 [.c (strsC l), cS s] [] (cB false) [] := by
  refine Good.of_vmQ TT 4000 Tryz.func163 rfl rfl ?_
  unfold Tryz.f163
  simp only [go_sem, Option.getD_some, go_sem_proc]
  (refine Cl.pure TT 4000 (index_none s l hl h) rfl rfl ?_; simp only [go_sem, Option.getD_some, go_sem_proc])
theorem resL_eq : resL = reservedL := by kernel_rfl
set_option maxRecDepth 100000 in
theorem token_Reserved (s : ByteArray) (h : resB s = false) : Good Tryz.prog 128 [cS s] [] (cB false) [] := by
  have hc := contains_none s reservedL (by decide) (by rw [← resL_eq]; exact h)
  refine Good.of_vmQ TT 4000 Tryz.func128 rfl rfl ?_
  unfold Tryz.f128
  simp only [go_sem, Option.getD_some, go_sem_proc]
  refine Cl.pure TT 4000 fields_good (by kernel_rfl) rfl ?_
  simp only [go_sem, Option.getD_some, go_sem_proc]
  (refine Cl.pure TT 4000 (hc) rfl rfl ?_; simp only [go_sem, Option.getD_some, go_sem_proc])
set_option maxRecDepth 100000 in
set_option maxHeartbeats 2000000 in
theorem token_IsName (s : ByteArray) (hs : s.size ≤ 1000000000) (h : nameB s = true) : Good Tryz.prog 98 [cS s] [] (cB true) [] := by
  obtain ⟨c, hc, h32, hd, hr, hn⟩ : ∃ c, s[0]? = some c ∧ s.size ≤ 32 ∧ digB c.toNat = false ∧ resB s = false ∧ namesTo s s.size = true := by
    unfold nameB at h
    split at h
    · cases h
    · rename_i c hc
      simp only [Bool.and_eq_true, Bool.not_eq_true', decide_eq_true_eq] at h
      exact ⟨c, hc, h.1.1.1, h.1.1.2, h.1.2, h.2⟩
  have h0 : 0 < s.size := by
    rcases Nat.lt_or_ge 0 s.size with h0 | h0
    · exact h0
    · rw [getElem?_neg s 0 (by omega)] at hc; cases hc
  have hokc : ∀ (j : Nat) d, s[j]? = some d → okC d.toNat = true := fun j d hd2 => by
    have hj : j < s.size := by
      rcases Nat.lt_or_ge j s.size with h1 | h1
      · exact h1
      · rw [getElem?_neg s j (by omega)] at hd2; cases hd2
    have := List.all_eq_true.1 hn j (List.mem_range.2 hj)
    rw [hd2] at this; exact this
  refine Good.of_vmQ TT 4000 Tryz.func98 rfl rfl ?_
  unfold Tryz.f98
  simp only [go_sem, Option.getD_some, go_sem_proc]
  refine Lp.at TT 4000 0 (Nat.le_of_ble_eq_true rfl) [false, false, true, true, false, false, true, true, true, true, true, true, true, true, true, true, true, true, true, true, true, true, true, true, true, true, true, true, true, true, true, true, true, true] (fun j : Nat => s.size - j) (fun j => j ≤ s.size) (fun j => [(6, cI j)]) (fun _ => []) (0) (Nat.zero_le _) ?_ ?_
  · simp only [go_sem, Option.getD_some, go_sem_proc]
  · rintro j i1
    rcases Nat.lt_or_ge j s.size with hlt | hge
    · obtain ⟨d, hd2⟩ : ∃ d, s[j]? = some d := ⟨s[j], getElem?_pos s j hlt⟩
      have hw := wrap_succ (j := j) (by omega)
      have ho := hokc j d hd2
      have hdb : d.toNat < 256 := d.toNat_lt
      simp only [go_sem, hlt, hd2, Option.getD_some, go_sem_proc]
      refine Cl.pure TT 4000 (token_letter d.toNat hdb) rfl rfl ?_
      cases g1 : letB d.toNat
      · simp only [go_sem, g1, hd2, Option.getD_some, go_sem_proc]
        refine Cl.pure TT 4000 (token_digit d.toNat) rfl rfl ?_
        cases g2 : digB d.toNat
        · exfalso; unfold okC at ho; rw [g1, g2] at ho; simp at ho
        · skip
          by_cases u1 : (65 : Int) ≤ d.toNat
          · by_cases u2 : ((d.toNat : Nat) : Int) ≤ 90
            · exfalso; unfold okC at ho; simp [u1, u2] at ho
            · simp only [go_sem, g1, g2, hd2, u1, u2, hw, Option.getD_some, go_sem_proc]
              exact ⟨j + 1, by omega, by omega, Fit1.of_eq rfl⟩
          · simp only [go_sem, g1, g2, hd2, u1, hw, Option.getD_some, go_sem_proc]
            exact ⟨j + 1, by omega, by omega, Fit1.of_eq rfl⟩
      · have g2 : letB d.toNat = true := g1
        by_cases u1 : (65 : Int) ≤ d.toNat
        · by_cases u2 : ((d.toNat : Nat) : Int) ≤ 90
          · exfalso; unfold okC at ho; simp [u1, u2] at ho
          · simp only [go_sem, g1, g2, hd2, u1, u2, hw, Option.getD_some, go_sem_proc]
            exact ⟨j + 1, by omega, by omega, Fit1.of_eq rfl⟩
        · simp only [go_sem, g1, g2, hd2, u1, hw, Option.getD_some, go_sem_proc]
          exact ⟨j + 1, by omega, by omega, Fit1.of_eq rfl⟩
    · have : j = s.size := by omega
      subst this
      have e0 : (s.size == 0) = false := beq_eq_false_iff_ne.2 (by omega)
      have h32' : ((s.size : Int) ≤ 32) := by omega
      simp only [go_sem, Nat.lt_irrefl, e0, h32', hc, Option.getD_some, go_sem_proc]
      refine Cl.pure TT 4000 (token_digit c.toNat) rfl rfl ?_
      simp only [go_sem, hd, Option.getD_some, go_sem_proc]
      refine Cl.pure TT 4000 (token_Reserved s hr) rfl rfl ?_
      simp only [go_sem, Option.getD_some, go_sem_proc]
def arityL (l : List UInt8) : Int × Int × Bool :=
  if l = [108, 105, 116] ∨ l = [99, 111, 108] ∨ l = [115, 116, 97, 114] then (0, 0, true)
  else if l = [110, 101, 103] ∨ l = [110, 111, 116] ∨ l = [105, 115, 110, 117, 108, 108] ∨ l = [110, 111, 116, 110, 117, 108, 108] then (1, 1, true)
  else if l = [97, 110, 100] ∨ l = [111, 114] ∨ l = [108, 105, 107, 101] ∨ l = [61] ∨ l = [60, 62] ∨ l = [60] ∨ l = [60, 61] ∨ l = [62] ∨ l = [62, 61] ∨ l = [43] ∨ l = [45] ∨ l = [42] ∨ l = [47] ∨ l = [37] ∨ l = [124, 124] then (2, 2, true)
  else if l = [98, 101, 116, 119, 101, 101, 110] then (3, 3, true)
  else if l = [105, 110] then (2, -1, true)
  else if l = [99, 97, 108, 108] then (0, -1, true)
  else (0, 0, false)
abbrev arityV (p : Int × Int × Bool) : AV := .tup [cI p.1, cI p.2.1, cB p.2.2]
theorem bs_lit (l : List UInt8) : (⟨l.toArray⟩ : ByteArray).toList = l := Go.ByteArray.toList_eq _
set_option maxRecDepth 100000 in
set_option maxHeartbeats 4000000 in
theorem expr_arity (op : ByteArray) : Good Tryz.prog 97 [cS op] [] (arityV (arityL op.toList)) [] := by
  refine Good.of_vmQ TT 4000 Tryz.func97 rfl rfl ?_
  unfold Tryz.f97
  simp only [go_sem, Option.getD_some, go_sem_proc]
  repeat' first | (refine vm_sym (by simp only [go_sem]) ?_ ?_ <;> intro hg <;> simp only [go_sem, hg, Option.getD_some, go_sem_proc]) | (refine vm_br ?_ ?_ <;> intro hg <;> simp only [go_sem, hg, Option.getD_some, go_sem_proc])
  all_goals simp only [Go.ByteArray.toList_eq, beq_iff_eq, beq_eq_false_iff_ne] at *
  all_goals refine Le.of_eq (congrArg arityV (a₁ := (_, _, _)) ?_)
  all_goals simp [arityL, *]
theorem arity_parts (op : ByteArray) (n : Nat) (h : partsB op n = true) (hs : (op.toList == sStar.toList) = false) : ∃ lo hi : Int, arityL op.toList = (lo, hi, true) ∧ lo ≤ n ∧ (hi < 0 ∨ (n : Int) ≤ hi) := by
  have key : ∀ (l : List ByteArray) (p : List UInt8 → Prop), inB7 op l = true → (∀ t, t ∈ l → p t.data.toList) → p op.toList := fun l p h1 h2 => by
    obtain ⟨t, ht, he⟩ := List.any_eq_true.1 h1
    rw [eq_of_beq he, Go.ByteArray.toList_eq]; exact h2 t ht
  unfold partsB at h
  split at h
  · rename_i g
    have hn : n = 0 := beq_iff_eq.1 h
    subst hn
    have := key zeroL (fun l => arityL l = (0, 0, true)) g (by
      intro t ht
      simp only [zeroL, List.mem_cons, List.not_mem_nil, or_false] at ht
      rcases ht with rfl | rfl | rfl <;> rfl)
    exact ⟨0, 0, this, by omega, by omega⟩
  split at h
  · rename_i g
    have hn : n = 1 := beq_iff_eq.1 h
    subst hn
    have := key oneL (fun l => arityL l = (1, 1, true)) g (by
      intro t ht
      simp only [oneL, List.mem_cons, List.not_mem_nil, or_false] at ht
      rcases ht with rfl | rfl | rfl | rfl <;> rfl)
    exact ⟨1, 1, this, by omega, by omega⟩
  split at h
  · rename_i g
    have hn : n = 2 := beq_iff_eq.1 h
    subst hn
    have g' : inB7 op (twoL ++ signL ++ relL) = true := by
      unfold inB7 at g ⊢
      rw [List.any_append, List.any_append]; exact g
    have := key _ (fun l => arityL l = (2, 2, true)) g' (by
      intro t ht
      simp only [twoL, signL, relL, List.cons_append, List.nil_append, List.mem_cons, List.not_mem_nil, or_false] at ht
      rcases ht with rfl | rfl | rfl | rfl | rfl | rfl | rfl | rfl | rfl | rfl | rfl | rfl | rfl | rfl | rfl <;> rfl)
    exact ⟨2, 2, this, by omega, by omega⟩
  split at h
  · rename_i g
    have hn : n = 3 := beq_iff_eq.1 h
    subst hn
    refine ⟨3, 3, ?_, by omega, by omega⟩
    rw [eq_of_beq g, Go.ByteArray.toList_eq]; rfl
  split at h
  · rename_i g
    have hn : 2 ≤ n := of_decide_eq_true h
    refine ⟨2, -1, ?_, by omega, by omega⟩
    rw [eq_of_beq g, Go.ByteArray.toList_eq]; rfl
  · refine ⟨0, -1, ?_, by omega, by omega⟩
    rw [eq_of_beq h, Go.ByteArray.toList_eq]; rfl
set_option maxRecDepth 100000 in
theorem expr_counts (e : Expr) (h : (e.op.toList == sCall.toList) = true → inB7 e.name aggL = false) : Good Tryz.prog 99 [e.av] [] (cB false) [] := by
  refine Good.of_vmQ TT 4000 Tryz.func99 rfl rfl ?_
  unfold Tryz.f99
  simp only [go_sem, Option.getD_some, go_sem_proc]
  cases h1 : (e.op.toList == sCall.toList)
  · simp only [go_sem, h1, Option.getD_some, go_sem_proc]
  · have h2 : (e.name.toList == sCount.toList) = false := by
      have h3 := h h1
      cases hc : (e.name.toList == sCount.toList)
      · rfl
      · have : inB7 e.name aggL = true := List.any_eq_true.2 ⟨_, .head _, hc⟩
        rw [h3] at this; cases this
    simp only [go_sem, h1, h2, Option.getD_some, go_sem_proc]
end Go.Ev
end
