import Derived.Test.YtnkpjoinejlfdaaGreatDoorMk7
import Derived.Test.YtnkpjoinejlfdaaGreatDoorMk6
import Derived.Test.YtnkpjoinejlfdaaGreatDoorMk1
import Derived.Test.YtnkpjoinejlfdaaGreatDoorMk2
import Derived.Test.YtnkpjoinejlfdaaGreatDoorMk3
section
set_option linter.all false
set_option linter.all false
open Go Go.Proofs
namespace Go.Ev
set_option maxRecDepth 100000 in
theorem token_IsName0 (s : ByteArray) (h : s.size = 0) : Good Tryz.prog 98 [cS s] [] (cB false) [] := by
  have e0 : (s.size == 0) = true := beq_iff_eq.2 h
  refine Good.of_vmQ TT 4000 Tryz.func98 rfl rfl ?_
  unfold Tryz.f98
  simp only [go_sem, Option.getD_some, go_sem_proc]
  refine Lp.at TT 4000 0 (Nat.le_of_ble_eq_true rfl) [false, false, true, true, false, false, true, true, true, true, true, true, true, true, true, true, true, true, true, true, true, true, true, true, true, true, true, true, true, true, true, true, true, true] (fun _ : Unit => 0) (fun _ => True) (fun _ => [(6, cI 0)]) (fun _ => []) (()) (trivial) ?_ ?_
  · simp only [go_sem, Option.getD_some, go_sem_proc]
  · rintro _ _
    simp only [go_sem, h, e0, Option.getD_some, go_sem_proc]
theorem IsName_may (s : ByteArray) (hs : s.size ≤ 1000000000) (h : nameB s = true ∨ s.size = 0) : Good Tryz.prog 98 [cS s] [] (cB (nameB s)) [] := by
  rcases h with h | h
  · rw [h]; exact token_IsName s hs h
  · have : nameB s = false := by unfold nameB; rw [getElem?_neg s 0 (by omega)]
    rw [this]; exact token_IsName0 s h
set_option maxRecDepth 100000 in
theorem idxE_none (l : List Expr) (g : FuncId) (hb : l.length ≤ 1000000) (hp : ∀ x, x ∈ l → Good Tryz.prog g [x.av] [] (cB false) []) : Good Tryz.prog 129 [.c (.lst 7 false (l.map Expr.cs)), .c (.fn g [])] [] (cI (-1)) [] := by
  refine Good.of_vmQ TT 4000 Tryz.func129 rfl rfl ?_
  unfold Tryz.f129
  simp only [go_sem, Option.getD_some, go_sem_proc]
  refine Lp.at TT 4000 0 (Nat.le_of_ble_eq_true rfl) [false, false, false, false, true, true, false, false, true, true, true, true, true, true, true, true, true, true, true] (fun j : Nat => l.length - j) (fun j => j ≤ l.length) (fun j => [(8, cI j)]) (fun _ => []) (0) (Nat.zero_le _) ?_ ?_
  · simp only [go_sem, Option.getD_some, go_sem_proc]
  · rintro j i1
    rcases Nat.lt_or_ge j l.length with hlt | hge
    · obtain ⟨x, hx, hm, ht, hd⟩ := getS hlt
      have hw := wrap_succ (j := j) (by omega)
      simp only [go_sem, hlt, hx, Option.getD_some, go_sem_proc]
      refine Cl.pure TT 4000 (hp x hm) rfl rfl ?_
      simp only [go_sem, hw, Option.getD_some, go_sem_proc]
      exact ⟨j + 1, by omega, by omega, Fit1.of_eq rfl⟩
    · have : j = l.length := by omega
      subst this
      simp only [go_sem, Nat.lt_irrefl, Option.getD_some, go_sem_proc]
set_option maxRecDepth 100000 in
theorem anyE_none (l : List Expr) (g : FuncId) (hb : l.length ≤ 1000000) (hp : ∀ x, x ∈ l → Good Tryz.prog g [x.av] [] (cB false) []) : Good Tryz.prog 100 [.c (.lst 7 false (l.map Expr.cs)), .c (.fn g [])] [] (cB false) [] := by
  refine Good.of_vmQ TT 4000 Tryz.func100 rfl rfl ?_
  unfold Tryz.f100
  simp only [go_sem, Option.getD_some, go_sem_proc]
  (refine Cl.pure TT 4000 (idxE_none l g hb hp) rfl rfl ?_; simp only [go_sem, Option.getD_some, go_sem_proc])
set_option maxRecDepth 100000 in
theorem look1_good (x : Expr) (h : Good Tryz.prog 71 [x.av] [] (cB true) []) : Good Tryz.prog 101 [x.av] [] (cB false) [] := by
  refine Good.of_vmQ TT 4000 Tryz.func101 rfl rfl ?_
  unfold Tryz.f101
  simp only [go_sem, Option.getD_some, go_sem_proc]
  (refine Cl.pure TT 4000 (h) rfl rfl ?_; simp only [go_sem, Option.getD_some, go_sem_proc])
def LookW (e : Expr) : Prop := ((e.op.toList == sCall.toList) = true → inB7 e.name aggL = false) ∧ I64 e.v.i ∧ e.l.length ≤ 1000 ∧ e.name.size ≤ 1000000000 ∧ e.table.size ≤ 1000000000
set_option maxRecDepth 100000 in
set_option maxHeartbeats 4000000 in
theorem look_good (e : Expr) : mayE e = true → Expr.All LookW e → Good Tryz.prog 71 [e.av] [] (cB true) [] := by
  induction e using Expr.ind with
  | h e ih =>
  intro hm ha
  rw [Expr.All_iff] at ha
  obtain ⟨⟨hc, hi, hl, hn, ht⟩, hs⟩ := ha
  have hm0 := hm
  rw [mayE_eq] at hm
  cases pp : partsB e.op e.l.length
  case false => rw [pp] at hm; exact absurd hm (by simp)
  cases os : (e.op.toList == sStar.toList)
  case true =>
    exfalso
    have o1 : (e.op.toList == sLit.toList) = false := by rw [eq_of_beq os]; exact (bs_eq [115, 116, 97, 114] [108, 105, 116]).trans rfl
    have o2 : (e.op.toList == sCol.toList) = false := by rw [eq_of_beq os]; exact (bs_eq [115, 116, 97, 114] [99, 111, 108]).trans rfl
    rw [o1, o2, os, pp] at hm
    simp at hm
  obtain ⟨lo, hI, hA, hlo, hhi⟩ := arity_parts e.op e.l.length pp os
  have hlo' : ¬ ((e.l.length : Int) < lo) := by omega
  have A := expr_arity e.op
  rw [hA] at A
  refine Good.of_vmQ TT 4000 Tryz.func71 rfl rfl ?_
  unfold Tryz.f71
  simp only [go_sem, Option.getD_some, go_sem_proc]
  refine Cl.pure TT 4000 A rfl rfl ?_
  have hwhat : ((e.op.toList == sLit.toList) = true ∧ e.v.ok = true ∧ (e.name.size == 0) = true ∧ (e.table.size == 0) = true ∧ (e.op.toList == sCol.toList) = false) ∨
      ((e.op.toList == sLit.toList) = false ∧ (e.op.toList == sCol.toList) = true ∧ (e.op.toList == sCall.toList) = false ∧ nameB e.name = true ∧ ((e.table.size == 0) = true ∨ nameB e.table = true) ∧ e.v.same zeroV = true) ∨
      ((e.op.toList == sLit.toList) = false ∧ (e.op.toList == sCol.toList) = false ∧ (e.table.size == 0) = true ∧ e.v.same zeroV = true ∧
        ((e.op.toList == sCall.toList) = true ∧ nameB e.name = true ∨ (e.op.toList == sCall.toList) = false ∧ (e.name.size == 0) = true) ∧ mayL e.l = true) := by
    rw [pp, os] at hm
    cases ol : (e.op.toList == sLit.toList)
    · cases vz : e.v.same zeroV
      · rw [ol, vz] at hm; simp at hm
      cases oc : (e.op.toList == sCol.toList)
      · cases ts : (e.table.size == 0)
        · rw [ol, oc, ts, vz] at hm; simp at hm
        cases ok : (e.op.toList == sCall.toList)
        · cases ns : (e.name.size == 0)
          · rw [ol, oc, ts, vz, ok, ns] at hm; simp at hm
          · rw [ol, oc, ts, vz, ok, ns] at hm
            exact .inr (.inr ⟨rfl, rfl, rfl, rfl, .inr ⟨rfl, rfl⟩, by simpa using hm⟩)
        · cases nb : nameB e.name
          · rw [ol, oc, ts, vz, ok, nb] at hm; simp at hm
          · rw [ol, oc, ts, vz, ok, nb, count_no (hc ok)] at hm
            exact .inr (.inr ⟨rfl, rfl, rfl, rfl, .inl ⟨rfl, rfl⟩, by simpa using hm⟩)
      · have ok : (e.op.toList == sCall.toList) = false := by rw [eq_of_beq oc]; exact (bs_eq [99, 111, 108] [99, 97, 108, 108]).trans rfl
        rw [ol, oc, vz] at hm
        refine .inr (.inl ⟨rfl, rfl, ok, ?_⟩)
        simp at hm
        exact ⟨hm.1, by simpa using hm.2, rfl⟩
    · have oc : (e.op.toList == sCol.toList) = false := by rw [eq_of_beq ol]; exact (bs_eq [108, 105, 116] [99, 111, 108]).trans rfl
      cases ts : (e.table.size == 0)
      · rw [ol, oc, ts] at hm; simp at hm
      · rw [ol, oc, ts] at hm
        simp at hm
        exact .inl ⟨rfl, hm.1, by simpa using hm.2, rfl, oc⟩
  have hname : nameB e.name = true ∨ e.name.size = 0 := by
    rcases hwhat with ⟨_, _, h, _⟩ | ⟨_, _, _, h, _⟩ | ⟨_, _, _, _, h | h, _⟩
    · exact .inr (beq_iff_eq.1 h)
    · exact .inl h
    · exact .inl h.2
    · exact .inr (beq_iff_eq.1 h.2)
  have hzero : e.v.same zeroV = true → (e.v.k == 0) = true ∧ (e.v.i == 0) = true ∧ (e.v.s.size == 0) = true := fun h => by
    unfold Val.same at h
    simp only [Bool.and_eq_true] at h
    refine ⟨h.1.1, h.1.2, ?_⟩
    have := str_empty e.v.s
    rw [← this]; exact h.2
  have hcount := expr_counts e hc
  have hkids : mayL e.l = true → Good Tryz.prog 100 [.c (.lst 7 false (e.l.map Expr.cs)), .c (.fn 101 [])] [] (cB false) [] := fun h =>
    anyE_none e.l _ (by omega) fun x hx => look1_good x (ih x hx ((mayL_iff _).1 h x hx) (hs x hx))
  have hempty : e.l.length = 0 → e.l = [] := List.eq_nil_of_length_eq_zero
  have hk0 : e.l.length = 0 → Good Tryz.prog 100 [.c (.lst 7 false (e.l.map Expr.cs)), .c (.fn 101 [])] [] (cB false) [] := fun h =>
    anyE_none e.l _ (by omega) fun x hx => by rw [hempty h] at hx; cases hx
  by_cases h0 : 0 ≤ hI
  · have hhi' : ¬ ((e.l.length : Int) > hI) := by omega
    simp only [go_sem, os, hlo', h0, hhi', Option.getD_some, go_sem_proc]
    refine Cl.pure TT 4000 (IsName_may e.name hn hname) rfl rfl ?_
    rcases hwhat with ⟨ol, vo, ns, ts, oc⟩ | ⟨ol, oc, ok, nb, tb, vz⟩ | ⟨ol, oc, ts, vz, hn2, hml⟩
    · have hK := hk0 (by have := pp; rw [partsB_lit ol] at this; exact beq_iff_eq.1 this)
      simp only [go_sem, ol, ns, Option.getD_some, go_sem_proc]
      refine Cl.pure TT 4000 (value_Check e.v hi) rfl rfl ?_
      simp only [go_sem, vo, ol, oc, ts, Option.getD_some, go_sem_proc]
      refine Cl.pure TT 4000 hcount rfl rfl ?_
      simp only [go_sem, Option.getD_some, go_sem_proc]
      refine Cl.pure TT 4000 hK rfl rfl ?_
      simp only [go_sem, Option.getD_some, go_sem_proc]
    · obtain ⟨z1, z2, z3⟩ := hzero vz
      have hK := hk0 (by
        have h1 : inB7 e.op zeroL = true := List.any_eq_true.2 ⟨_, .tail _ (.head _), oc⟩
        have := pp; unfold partsB at this; rw [h1, if_pos rfl] at this; exact beq_iff_eq.1 this)
      cases ts : (e.table.size == 0)
      · have tb' : nameB e.table = true := by
          rcases tb with h | h
          · rw [ts] at h; cases h
          · exact h
        simp only [go_sem, ol, oc, nb, ts, Option.getD_some, go_sem_proc]
        refine Cl.pure TT 4000 (IsName_may e.table ht (.inl tb')) rfl rfl ?_
        simp only [go_sem, tb', ol, oc, z1, z2, z3, Option.getD_some, go_sem_proc]
        refine Cl.pure TT 4000 hcount rfl rfl ?_
        simp only [go_sem, Option.getD_some, go_sem_proc]
        refine Cl.pure TT 4000 hK rfl rfl ?_
        simp only [go_sem, Option.getD_some, go_sem_proc]
      · simp only [go_sem, ol, oc, nb, ts, z1, z2, z3, Option.getD_some, go_sem_proc]
        refine Cl.pure TT 4000 hcount rfl rfl ?_
        simp only [go_sem, Option.getD_some, go_sem_proc]
        refine Cl.pure TT 4000 hK rfl rfl ?_
        simp only [go_sem, Option.getD_some, go_sem_proc]
    · obtain ⟨z1, z2, z3⟩ := hzero vz
      have hK := hkids hml
      rcases hn2 with ⟨ok, nb⟩ | ⟨ok, ns⟩
      · simp only [go_sem, ol, oc, ok, nb, ts, z1, z2, z3, Option.getD_some, go_sem_proc]
        refine Cl.pure TT 4000 hcount rfl rfl ?_
        simp only [go_sem, Option.getD_some, go_sem_proc]
        refine Cl.pure TT 4000 hK rfl rfl ?_
        simp only [go_sem, Option.getD_some, go_sem_proc]
      · simp only [go_sem, ol, oc, ok, ns, ts, z1, z2, z3, Option.getD_some, go_sem_proc]
        refine Cl.pure TT 4000 hcount rfl rfl ?_
        simp only [go_sem, Option.getD_some, go_sem_proc]
        refine Cl.pure TT 4000 hK rfl rfl ?_
        simp only [go_sem, Option.getD_some, go_sem_proc]
  · simp only [go_sem, os, hlo', h0, Option.getD_some, go_sem_proc]
    refine Cl.pure TT 4000 (IsName_may e.name hn hname) rfl rfl ?_
    rcases hwhat with ⟨ol, vo, ns, ts, oc⟩ | ⟨ol, oc, ok, nb, tb, vz⟩ | ⟨ol, oc, ts, vz, hn2, hml⟩
    · have hK := hk0 (by have := pp; rw [partsB_lit ol] at this; exact beq_iff_eq.1 this)
      simp only [go_sem, ol, ns, Option.getD_some, go_sem_proc]
      refine Cl.pure TT 4000 (value_Check e.v hi) rfl rfl ?_
      simp only [go_sem, vo, ol, oc, ts, Option.getD_some, go_sem_proc]
      refine Cl.pure TT 4000 hcount rfl rfl ?_
      simp only [go_sem, Option.getD_some, go_sem_proc]
      refine Cl.pure TT 4000 hK rfl rfl ?_
      simp only [go_sem, Option.getD_some, go_sem_proc]
    · obtain ⟨z1, z2, z3⟩ := hzero vz
      have hK := hk0 (by
        have h1 : inB7 e.op zeroL = true := List.any_eq_true.2 ⟨_, .tail _ (.head _), oc⟩
        have := pp; unfold partsB at this; rw [h1, if_pos rfl] at this; exact beq_iff_eq.1 this)
      cases ts : (e.table.size == 0)
      · have tb' : nameB e.table = true := by
          rcases tb with h | h
          · rw [ts] at h; cases h
          · exact h
        simp only [go_sem, ol, oc, nb, ts, Option.getD_some, go_sem_proc]
        refine Cl.pure TT 4000 (IsName_may e.table ht (.inl tb')) rfl rfl ?_
        simp only [go_sem, tb', ol, oc, z1, z2, z3, Option.getD_some, go_sem_proc]
        refine Cl.pure TT 4000 hcount rfl rfl ?_
        simp only [go_sem, Option.getD_some, go_sem_proc]
        refine Cl.pure TT 4000 hK rfl rfl ?_
        simp only [go_sem, Option.getD_some, go_sem_proc]
      · simp only [go_sem, ol, oc, nb, ts, z1, z2, z3, Option.getD_some, go_sem_proc]
        refine Cl.pure TT 4000 hcount rfl rfl ?_
        simp only [go_sem, Option.getD_some, go_sem_proc]
        refine Cl.pure TT 4000 hK rfl rfl ?_
        simp only [go_sem, Option.getD_some, go_sem_proc]
    · obtain ⟨z1, z2, z3⟩ := hzero vz
      have hK := hkids hml
      rcases hn2 with ⟨ok, nb⟩ | ⟨ok, ns⟩
      · simp only [go_sem, ol, oc, ok, nb, ts, z1, z2, z3, Option.getD_some, go_sem_proc]
        refine Cl.pure TT 4000 hcount rfl rfl ?_
        simp only [go_sem, Option.getD_some, go_sem_proc]
        refine Cl.pure TT 4000 hK rfl rfl ?_
        simp only [go_sem, Option.getD_some, go_sem_proc]
      · simp only [go_sem, ol, oc, ok, ns, ts, z1, z2, z3, Option.getD_some, go_sem_proc]
        refine Cl.pure TT 4000 hcount rfl rfl ?_
        simp only [go_sem, Option.getD_some, go_sem_proc]
        refine Cl.pure TT 4000 hK rfl rfl ?_
        simp only [go_sem, Option.getD_some, go_sem_proc]
end Go.Ev
end
section
set_option linter.all false
set_option linter.all false
open Go Go.Proofs
namespace Go.Ev
set_option maxRecDepth 100000 in
theorem same_at (e : Expr) {n : Int} (ha : (e.op.toList == sAt.toList) = true) (h : atB e n = true) : Good Tryz.prog 69 [e.av, .agg [cS sAt, cI 2, cI e.v.i, cS sNone, cS sNone, cS sNone, .c .nl]] [] (cB true) [] := by
  have hl := atB_len h
  unfold atB at h
  simp only [Bool.and_eq_true] at h
  obtain ⟨⟨⟨⟨⟨⟨a, b⟩, c⟩, d⟩, f⟩, g⟩, k⟩ := h
  have E : Good Tryz.prog 96 [.c (.lst 7 false (e.l.map Expr.cs)), .c .nl, .c (.fn 69 [])] [] (cB true) [] := by
    rw [hl]
    refine Good.of_vmQ TT 4000 Tryz.func96 rfl rfl ?_
    unfold Tryz.f96
    simp only [go_sem, Option.getD_some, go_sem_proc]
    refine Lp.at TT 4000 0 (Nat.le_of_ble_eq_true rfl) [false, false, false, false, false, false, true, true, true, true, false, false, false, false, false, false, false, true, true, true, true, true, true, true, true, true, true, true, true, true, true, true] (fun _ : Unit => 0) (fun _ => True) (fun _ => [(17, cI 0)]) (fun _ => []) (()) (trivial) ?_ ?_
    · simp only [go_sem, Option.getD_some, go_sem_proc]
    · rintro _ _
      simp only [go_sem, Option.getD_some, go_sem_proc]
  refine Good.of_vmQ TT 4000 Tryz.func69 rfl rfl ?_
  unfold Tryz.f69
  simp only [go_sem, ha, a, b, f, g, Option.getD_some, go_sem_proc]
  refine Cl.pure TT 4000 E rfl rfl ?_
  simp only [go_sem, Option.getD_some, go_sem_proc]
set_option maxRecDepth 100000 in
set_option maxHeartbeats 4000000 in
theorem bound_good (n : Int) (e : Expr) : (namedE n e).2 = true → Expr.All (fun x => x.l.length ≤ 1000) e → Good Tryz.prog 31 [e.av, cI n] [] (.tup [(namedE n e).1.av, cB true]) [] := by
  induction e using Expr.ind with
  | h e ih =>
  intro h1 ha
  rw [Expr.All_iff] at ha
  obtain ⟨hlen, hs⟩ := ha
  rw [namedE_eq] at h1 ⊢
  cases hp : notP e
  case true => rw [hp, if_pos rfl] at h1; cases h1
  rw [hp, if_neg (by simp)] at h1
  rw [if_neg (by simp)]
  cases hat : (e.op.toList == sAt.toList)
  case true =>
    rw [hat, if_pos rfl] at h1
    rw [if_pos rfl]
    have hA : atB e n = true := h1
    have S := same_at e hat hA
    obtain ⟨b1, b2⟩ := atB_at hA
    refine Good.of_vmQ TT 4000 Tryz.func31 rfl rfl ?_
    unfold Tryz.f31
    simp only [go_sem, hat, b1, b2, ge_iff_le, Option.getD_some, go_sem_proc]
    refine Cl.pure TT 4000 S rfl rfl ?_
    have h1' : (atB e n) = true := h1
    simp only [go_sem, h1', Option.getD_some, go_sem_proc]
    exact Le.tup (.cons (nlE ..) (.cons (Le.refl _) .nil))
  rw [hat, if_neg (by simp)] at h1
  rw [if_neg (by simp)]
  cases hL : (namedL n e.l).2
  case false => rw [hL, if_neg (by simp)] at h1; cases h1
  have hall : ∀ x, x ∈ e.l → (namedE n x).2 = true := fun x hx => by
    cases hx2 : (namedE n x).2
    · rw [namedL_bad n e.l x hx hx2] at hL; cases hL
    · rfl
  have hok := namedL_ok n e.l hall
  rw [hok, if_pos rfl]
  obtain ⟨n1, n2, n3⟩ := notP_no hp
  have hagg := eval_aggregates e.name
  have hn : (((e.l.length : Nat) : Int) == 0) = (e.l.length == 0) := castB _ 0
  refine Good.of_vmQ TT 4000 Tryz.func31 rfl rfl ?_
  unfold Tryz.f31
  cases oc : (e.op.toList == sCall.toList)
  · rcases hl : e.l with _ | ⟨y, l⟩
    · simp only [go_sem, hat, n1, oc, hl, Option.getD_some, go_sem_proc]
      (refine Cl.pure TT 4000 (clone_nil) rfl rfl ?_; simp only [go_sem, Option.getD_some, go_sem_proc])
      refine Lp.at TT 4000 2 (Nat.le_of_ble_eq_true rfl) [false, false, false, false, false, true, false, false, true, true, true, true, false, false, false, false, false, false, false, false, false, false, false, false, false, false, false, false, false, false, false, false, false, false, false, false, false, false, false, false, false, false, false, false, false, false, false, false, false, false, false, false, false, false, false, false, true, true, true, true, true, true, true, true, true, true, true, true, true, true, true, true, true, true, true] (fun _ : Unit => 0) (fun _ => True) (fun _ => [(56, cI 0)]) (fun _ => []) (()) (trivial) ?_ ?_
      · simp only [go_sem, Option.getD_some, go_sem_proc]
      · rintro _ _
        simp only [go_sem, hl, Option.getD_some, go_sem_proc]
    · simp only [go_sem, hat, n1, oc, hl, Option.getD_some, go_sem_proc]
      refine Cl.frame TT 4000 [] (clone_cons y l (by rw [hl, List.length_cons] at hlen; omega)) rfl (by simp only [go_sem, Option.getD_some, go_sem_proc]) rfl (Nat.zero_le _) ?_
      simp only [go_sem, Option.getD_some, go_sem_proc]
      refine Lp.at TT 4000 3 (Nat.le_of_ble_eq_true rfl) [false, false, false, false, false, true, false, false, true, true, true, true, false, false, false, false, false, false, false, false, false, false, false, false, false, false, false, false, false, false, false, false, false, false, false, false, false, false, false, false, false, false, false, false, false, false, false, false, false, false, false, false, false, false, false, false, true, true, true, true, true, true, true, true, true, true, true, true, true, true, true, true, true, true, true] (fun j : Nat => l.length + 1 - j) (fun j => j ≤ l.length + 1) (fun j => [(56, cI j)]) (fun j => [(2, .rows 7 26 (mixR Expr.cs (ncs n) (y :: l) j))]) (0) (Nat.zero_le _) ?_ ?_
      · simp only [go_sem, mixR_zero, Option.getD_some, go_sem_proc]
      · rintro j i1
        rcases Nat.lt_or_ge j (l.length + 1) with hlt | hge
        · obtain ⟨x, hx, hm, ht, hd⟩ := getS (l := y :: l) hlt
          have hw := wrap_succ (j := j) (by rw [hl, List.length_cons] at hlen; omega)
          have hg := mixR_get (f := Expr.cs) (g := ncs n) hx
          have hst := mixR_set (f := Expr.cs) (g := ncs n) hx
          rw [Expr.cs_eq] at hg
          rw [ncs, Expr.cs_eq] at hst
          simp only [go_sem, hlt, hg, Nat.zero_add, Option.getD_some, go_sem_proc]
          refine Cl.pure TT 4000 (ih x (hl ▸ hm) (hall x (hl ▸ hm)) (hs x (hl ▸ hm))) rfl rfl ?_
          simp only [go_sem, hlt, hg, hst, Nat.zero_add, hw, Option.getD_some, go_sem_proc]
          exact ⟨j + 1, by omega, by omega, Fit1.of_eq rfl, rfl⟩
        · have : j = l.length + 1 := by omega
          subst this
          have ha := mixR_all (f := Expr.cs) (g := ncs n) (l := y :: l)
          rw [List.length_cons] at ha
          have hk : List.take l.length (List.map (ncs n) l) = List.map Expr.cs (List.map (fun x => (namedE n x).1) l) := by
            rw [List.take_of_length_le (by simp), List.map_map]; rfl
          simp only [go_sem, Nat.lt_irrefl, ha, Nat.zero_add, Nat.le_refl, hk, ncs, Option.getD_some, go_sem_proc]
  · have nagg := n3 oc
    rw [nagg] at hagg
    rcases hl : e.l with _ | ⟨y, l⟩
    · simp only [go_sem, hat, n1, oc, hl, Option.getD_some, go_sem_proc]
      refine Cl.pure TT 4000 hagg rfl rfl ?_
      simp only [go_sem, hl, Option.getD_some, go_sem_proc]
      (refine Cl.pure TT 4000 (clone_nil) rfl rfl ?_; simp only [go_sem, Option.getD_some, go_sem_proc])
      refine Lp.at TT 4000 2 (Nat.le_of_ble_eq_true rfl) [false, false, false, false, false, true, false, false, true, true, true, true, false, false, false, false, false, false, false, false, false, false, false, false, false, false, false, false, false, false, false, false, false, false, false, false, false, false, false, false, false, false, false, false, false, false, false, false, false, false, false, false, false, false, false, false, true, true, true, true, true, true, true, true, true, true, true, true, true, true, true, true, true, true, true] (fun _ : Unit => 0) (fun _ => True) (fun _ => [(56, cI 0)]) (fun _ => []) (()) (trivial) ?_ ?_
      · simp only [go_sem, Option.getD_some, go_sem_proc]
      · rintro _ _
        simp only [go_sem, hl, Option.getD_some, go_sem_proc]
    · simp only [go_sem, hat, n1, oc, hl, Option.getD_some, go_sem_proc]
      refine Cl.pure TT 4000 hagg rfl rfl ?_
      simp only [go_sem, hl, Option.getD_some, go_sem_proc]
      refine Cl.frame TT 4000 [] (clone_cons y l (by rw [hl, List.length_cons] at hlen; omega)) rfl (by simp only [go_sem, Option.getD_some, go_sem_proc]) rfl (Nat.zero_le _) ?_
      simp only [go_sem, Option.getD_some, go_sem_proc]
      refine Lp.at TT 4000 3 (Nat.le_of_ble_eq_true rfl) [false, false, false, false, false, true, false, false, true, true, true, true, false, false, false, false, false, false, false, false, false, false, false, false, false, false, false, false, false, false, false, false, false, false, false, false, false, false, false, false, false, false, false, false, false, false, false, false, false, false, false, false, false, false, false, false, true, true, true, true, true, true, true, true, true, true, true, true, true, true, true, true, true, true, true] (fun j : Nat => l.length + 1 - j) (fun j => j ≤ l.length + 1) (fun j => [(56, cI j)]) (fun j => [(2, .rows 7 26 (mixR Expr.cs (ncs n) (y :: l) j))]) (0) (Nat.zero_le _) ?_ ?_
      · simp only [go_sem, mixR_zero, Option.getD_some, go_sem_proc]
      · rintro j i1
        rcases Nat.lt_or_ge j (l.length + 1) with hlt | hge
        · obtain ⟨x, hx, hm, ht, hd⟩ := getS (l := y :: l) hlt
          have hw := wrap_succ (j := j) (by rw [hl, List.length_cons] at hlen; omega)
          have hg := mixR_get (f := Expr.cs) (g := ncs n) hx
          have hst := mixR_set (f := Expr.cs) (g := ncs n) hx
          rw [Expr.cs_eq] at hg
          rw [ncs, Expr.cs_eq] at hst
          simp only [go_sem, hlt, hg, Nat.zero_add, Option.getD_some, go_sem_proc]
          refine Cl.pure TT 4000 (ih x (hl ▸ hm) (hall x (hl ▸ hm)) (hs x (hl ▸ hm))) rfl rfl ?_
          simp only [go_sem, hlt, hg, hst, Nat.zero_add, hw, Option.getD_some, go_sem_proc]
          exact ⟨j + 1, by omega, by omega, Fit1.of_eq rfl, rfl⟩
        · have : j = l.length + 1 := by omega
          subst this
          have ha := mixR_all (f := Expr.cs) (g := ncs n) (l := y :: l)
          rw [List.length_cons] at ha
          have hk : List.take l.length (List.map (ncs n) l) = List.map Expr.cs (List.map (fun x => (namedE n x).1) l) := by
            rw [List.take_of_length_le (by simp), List.map_map]; rfl
          simp only [go_sem, Nat.lt_irrefl, ha, Nat.zero_add, Nat.le_refl, hk, ncs, Option.getD_some, go_sem_proc]
end Go.Ev
end
section
set_option linter.all false
set_option linter.all false
open Go Go.Proofs
namespace Go.Ev
theorem named_look (n : Int) (e : Expr) : Expr.All (NodeOK n) e → Expr.All (fun x => I64 x.v.i ∧ x.l.length ≤ 1000 ∧ x.name.size ≤ 1000000000 ∧ x.table.size ≤ 1000000000) e → Expr.All LookW (namedE n e).1 := by
  induction e using Expr.ind with
  | h e ih =>
    intro h hw
    rw [Expr.All_iff] at h hw
    obtain ⟨⟨hp, hd⟩, hk⟩ := h
    obtain ⟨n1, n2, n3⟩ := notP_no hp
    rw [namedE_eq, hp, if_neg (by simp)]
    cases ha : (e.op.toList == sAt.toList)
    · rw [if_neg (by simp)]
      have hok := namedL_ok n e.l fun x hx => (all_valid n x (hk x hx)).1
      rw [hok, if_pos rfl, Expr.All_iff]
      refine ⟨⟨n3, hw.1.1, ?_, hw.1.2.2⟩, fun x hx => ?_⟩
      · show (e.l.map fun x => (namedE n x).1).length ≤ 1000
        rw [List.length_map]; exact hw.1.2.1
      · have hx' : x ∈ e.l.map fun x => (namedE n x).1 := hx
        obtain ⟨y, hy, rfl⟩ := List.mem_map.1 hx'
        exact ih y hy (hk y hy) (hw.2 y hy)
    · rw [if_pos rfl, Expr.All_iff]
      refine ⟨⟨fun h => ?_, by simp [colA, Expr.v, zeroV, I64], by simp [colA, Expr.l], by simp [colA, Expr.name]; decide, by simp [colA, Expr.table]; exact Nat.zero_le _⟩, fun x hx => by cases hx⟩
      exact absurd (((bs_eq [99, 111, 108] [99, 97, 108, 108]).trans rfl : (colA.op.toList == sCall.toList) = false).symm.trans h) (by simp)
set_option maxRecDepth 100000 in
theorem check_good (n : Int) (e : Expr) (h : Expr.All (NodeOK n) e) (hd : deepE e ≤ 40) (hn : e.nodes ≤ 1000000) (hw : Expr.All (fun x => I64 x.v.i ∧ x.l.length ≤ 1000 ∧ x.name.size ≤ 1000000000 ∧ x.table.size ≤ 1000000000) e) : Good Tryz.prog 12 [e.av, cI n] [] (cI 0) [] := by
  obtain ⟨h3, h4⟩ := all_valid n e h
  have h5 := (valid_all n e h3 h4).2
  have B := bound_good n e h3 (hw.imp fun x hx => hx.2.1)
  have L := look_good _ h4 (named_look n e h hw)
  have hnn := named_nodes n e
  have D := expr_Deep (namedE n e).1 (by omega)
  rw [h5] at D
  have hd' : ¬ (((deepE e : Nat) : Int) > 40) := by omega
  have C : Good Tryz.prog 32 [(namedE n e).1.av] [] (cI 0) [] := by
    generalize (namedE n e).1 = x at L D
    refine Good.of_vmQ TT 4000 Tryz.func32 rfl rfl ?_
    unfold Tryz.f32
    simp only [go_sem, Option.getD_some, go_sem_proc]
    refine Cl.pure TT 4000 L rfl rfl ?_
    simp only [go_sem, Option.getD_some, go_sem_proc]
    refine Cl.pure TT 4000 D rfl rfl ?_
    simp only [go_sem, hd', Option.getD_some, go_sem_proc]
  generalize (namedE n e).1 = x at B C
  refine Good.of_vmQ TT 4000 Tryz.func12 rfl rfl ?_
  unfold Tryz.f12
  simp only [go_sem, Option.getD_some, go_sem_proc]
  refine Cl.pure TT 4000 B rfl rfl ?_
  simp only [go_sem, Option.getD_some, go_sem_proc]
  refine Cl.pure TT 4000 C rfl rfl ?_
  simp only [go_sem, Option.getD_some, go_sem_proc]
theorem light_allE (e : Expr) : lightE e = true → Expr.All (fun x => x.v.s.size ≤ 60 ∧ x.name.size ≤ 60) e := by
  induction e using Expr.ind with
  | h e ih =>
    intro h
    rw [lightE_eq] at h
    simp only [Bool.and_eq_true, decide_eq_true_eq] at h
    rw [Expr.All_iff]
    exact ⟨⟨h.1.1.1, h.1.2⟩, fun x hx => ih x hx ((lightL_iff _).1 h.2 x hx)⟩
theorem nodes_lens (e : Expr) : e.nodes ≤ 60 → Expr.All (fun x => x.l.length ≤ 1000) e := by
  induction e using Expr.ind with
  | h e ih =>
    intro h
    have hne := nodes_eq e
    have hll := nodesL_len e.l
    rw [Expr.All_iff]
    exact ⟨by omega, fun x hx => ih x hx (by have := nodesL_mem hx; omega)⟩
theorem ok_table {n : Int} {e : Expr} (h : NodeOK n e) : e.table.size ≤ 1000000000 := by
  have p2 := h.hd
  have : (e.table.size == 0) = true := by
    cases ha : (e.op.toList == sAt.toList)
    · rw [ha, if_neg (by simp)] at p2
      unfold headB at p2
      simp only [Bool.and_eq_true] at p2
      exact p2.1.2
    · rw [ha, if_pos rfl] at p2
      unfold atB at p2
      simp only [Bool.and_eq_true] at p2
      exact p2.1.1.2
  have := beq_iff_eq.1 this
  omega
theorem kid_wt {n : Int} {e x : Expr} (h : NodeOK n e) (hx : x ∈ e.l) : wtE x ≤ wtE e := by
  have p2 := h.hd
  have hw := wtE_eq e
  cases ha : (e.op.toList == sAt.toList)
  · cases hl : (e.op.toList == sLit.toList)
    · rw [ha, hl] at hw
      have := wtL_mem hx
      simp only [Bool.false_eq_true, if_false] at hw
      omega
    · rw [ha, if_neg (by simp)] at p2
      unfold headB at p2
      rw [partsB_lit hl] at p2
      simp only [Bool.and_eq_true] at p2
      rw [List.eq_nil_of_length_eq_zero (beq_iff_eq.1 p2.1.1.1)] at hx; cases hx
  · rw [ha, if_pos rfl] at p2
    rw [atB_len p2] at hx; cases hx
theorem fold_fine {n : Nat} (e : Expr) (hw : wtE e ≤ 9000000) (ha : Expr.All (fun x => NodeW n x ∧ (I64 x.v.i ∧ x.l.length ≤ 1000 ∧ x.name.size ≤ 1000000000 ∧ x.table.size ≤ 1000000000)) e) (ok : Expr.All (NodeOK n) e) :
    Expr.All (fun x => I64 x.v.i ∧ x.l.length ≤ 1000 ∧ x.name.size ≤ 1000000000 ∧ x.table.size ≤ 1000000000) (foldE evC e) := by
  have hp := ha.and ok
  revert hw hp
  clear ha ok
  induction e using Expr.ind with
  | h e ih =>
    intro hw hp
    rcases fold_cases e with ⟨v, h1, h2, h3⟩ | ⟨h1, h2⟩
    · have hna := (noat_uses e).1 h1
      have := (evalF_all [] (by simp) e hw (closed_node hna (hp.imp fun x hx => hx.1.1))).1.1
      rw [h2] at this
      rw [h3, Expr.All_iff]
      exact ⟨⟨this, by simp [litE, Expr.l], by simp [litE, Expr.name]; exact Nat.zero_le _, by simp [litE, Expr.table]; exact Nat.zero_le _⟩, fun x hx => by cases hx⟩
    · rw [Expr.All_iff] at hp
      rw [h2, Expr.All_iff]
      refine ⟨⟨hp.1.1.2.1, ?_, hp.1.1.2.2.2⟩, fun x hx => ?_⟩
      · show (e.l.map (foldE evC)).length ≤ 1000
        rw [List.length_map]; exact hp.1.1.2.2.1
      · obtain ⟨y, hy, rfl⟩ := List.mem_map.1 hx
        exact ih y hy (Nat.le_trans (kid_wt hp.1.2 hy) hw) (hp.2 y hy)
theorem fold_okE (n : Int) (e : Expr) : e.nodes ≤ 60 → wtE e ≤ 9000000 → Expr.All (fun x => NodeOK n x ∧ x.l.length ≤ 1000 ∧ I64 x.v.i) e → Expr.All (FoldOK evC) e := by
  induction e using Expr.ind with
  | h e ih =>
    intro hn hw hp
    have hp0 := hp
    rw [Expr.All_iff] at hp ⊢
    have hne := nodes_eq e
    refine ⟨⟨uses_nodup e [] List.nodup_nil, ?_, ?_, by have := hp.1.2.1; omega, fun hu => ?_⟩, fun x hx => ?_⟩
    · exact uses_from I64 e (hp0.imp fun x hx _ => hx.2.2) [] (by simp)
    · have := uses_len e []
      simp only [List.length_nil] at this; omega
    · have hna := (noat_uses e).1 hu
      have := (evalF_all [] (by simp) e hw ((hna.and hp0).imp fun x hx => ⟨fun ho => absurd (hx.1.symm.trans ho) (by simp), hx.2.2.2, hx.2.2.1⟩)).2.1
      exact ⟨_, _, this, evC_eq e⟩
    · exact ih x hx (by have := nodesL_mem hx; omega) (Nat.le_trans (kid_wt hp.1.1 hx) hw) (hp.2 x hx)
set_option maxRecDepth 100000 in
set_option maxHeartbeats 4000000 in
theorem evalSame_good (L : Good Tryz.prog 7 [] [] (cB true) []) (e : Expr) (r : List Val) (he0 : Expr.All (fun x => I64 x.v.i) e) (hr : ∀ x, x ∈ r → I64 x.i) (hrs : ∀ x, x ∈ r → x.s.size ≤ 281474976710656) :
    Good Tryz.prog 3 [e.av, .c (rowC r)] [] (cB true) [] := by
  refine Good.of_vmQ TT 8000 Tryz.func3 rfl rfl ?_
  unfold Tryz.f3
  simp only [go_sem, Option.getD_some, go_sem_proc]
  refine Cl.pure TT 8000 L rfl rfl ?_
  simp only [go_sem, Option.getD_some, go_sem_proc]
  have B1 := big_good r [e] hrs (by simp)
  rw [one_cs] at B1
  refine Cl.pure TT 8000 B1 rfl rfl ?_
  cases c1 : bigB r [e]
  case true => simp only [go_sem, c1, Option.getD_some, go_sem_proc]
  simp only [go_sem, c1, Option.getD_some, go_sem_proc]
  obtain ⟨⟨r1, r2⟩, e1⟩ := big_no c1
  obtain ⟨e1, e2⟩ := e1 e (by simp)
  have B2 := wide_good r [e] (fun x hx => by rw [List.mem_singleton] at hx; subst hx; omega) (by simp)
  rw [one_cs] at B2
  refine Cl.pure TT 8000 B2 rfl rfl ?_
  cases c3 : wideB r [e]
  case false => simp only [go_sem, c1, c3, Option.getD_some, go_sem_proc]
  obtain ⟨v1, w2⟩ : checkN r.length e = 0 ∧ checkRowS r = 0 := by
    unfold wideB at c3
    simp only [Bool.and_eq_true, List.all_cons, List.all_nil, Bool.and_true, beq_iff_eq] at c3
    exact c3
  obtain ⟨ok, dp⟩ := (checkN_ok _ e).1 v1
  have he : Expr.All (fun x => I64 x.v.i ∧ x.table.size ≤ 1000000000) e := (he0.and ok).imp fun x hx => ⟨hx.1, ok_table hx.2⟩
  have hrok : ∀ v, v ∈ r → v.ok = true := fun v hv => by
    unfold checkRowS at w2
    cases h : r.any fun v => !v.ok
    · have := List.any_eq_false.1 h v hv
      simpa using this
    · rw [h] at w2; simp at w2
  have hlight := light_allE e e2
  have hlens := nodes_lens e e1
  have hW : Expr.All (NodeW r.length) e := ((ok.and he).and hlens).imp fun x hx => ⟨ok_inrow hx.1.1, hx.1.2.1, hx.2⟩
  have hwt : wtE e ≤ 9000000 := by
    have := wt_nodes e (hlight.imp fun x hx => by have := hx.1; omega)
    omega
  have hrr : ∀ v, v ∈ r → I64 v.i ∧ v.s.size ≤ 100000 := fun v hv => ⟨hr v hv, by have := r2 v hv; omega⟩
  have E1 := (evalF_all r hrr e hwt hW).2.1
  have hokf := fold_ok r.length e hwt hW ok
  have hfi : Expr.All (fun x => I64 x.v.i ∧ x.l.length ≤ 1000 ∧ x.name.size ≤ 1000000000 ∧ x.table.size ≤ 1000000000) e := ((he.and hlight).and hlens).imp fun x hx => ⟨hx.1.1.1, hx.2, by have := hx.1.2.2; omega, hx.1.1.2⟩
  have hff : Expr.All (fun x => I64 x.v.i ∧ x.l.length ≤ 1000 ∧ x.name.size ≤ 1000000000 ∧ x.table.size ≤ 1000000000) (foldE evC e) := fold_fine (n := r.length) e hwt (hW.and hfi) ok
  have hWf : Expr.All (NodeW r.length) (foldE evC e) := (hokf.and hff).imp fun x hx => ⟨ok_inrow hx.1, hx.2.1, hx.2.2.1⟩
  have hwtf := fold_wt r.length e hwt hW
  have hnf := fold_nodes e
  have hdf := fold_deep e
  have E2 := (evalF_all r hrr _ (Nat.le_trans hwtf hwt) hWf).2.1
  rw [fold_val] at E2
  have hmax : (r.length : Int) ≤ 9223372036854775807 := by omega
  have C1 := check_good 9223372036854775807 e (ok.imp fun x hx => ok_mono hmax hx) dp (by omega) hfi
  have F1 := Fold_good evC e _ (CLe.refl _) C1 (fold_okE r.length e e1 hwt (((ok.and hlens).and he).imp fun x hx => ⟨hx.1.1, hx.1.2, hx.2.1⟩))
  have C2 := check_good 9223372036854775807 (foldE evC e) (hokf.imp fun x hx => ok_mono hmax hx) (by omega) (by omega) hff
  have C3 := check_good r.length (foldE evC e) hokf (by omega) (by omega) hff
  have F2 := Fold_good evC (foldE evC e) _ (CLe.refl _) C2 (fold_okE r.length _ (by omega) (Nat.le_trans hwtf hwt) ((hokf.and hff).imp fun x hx => ⟨hx.1, hx.2.2.1, hx.2.1⟩))
  rw [fold_twice] at F2
  have hsame := r07_Same (foldE evC e) (foldE evC e)
  rw [eqE_self] at hsame
  simp only [go_sem, c1, c3, Option.getD_some, go_sem_proc]
  refine Cl.pure TT 8000 F1 rfl rfl ?_
  generalize foldE evC e = x at E2 C3 F2 hsame
  generalize evalF r e = p at E1 E2
  simp only [go_sem, Option.getD_some, go_sem_proc]
  refine Cl.pure TT 8000 E1 rfl rfl ?_
  simp only [go_sem, Option.getD_some, go_sem_proc]
  refine Cl.pure TT 8000 E2 rfl rfl ?_
  simp only [go_sem, Option.getD_some, go_sem_proc]
  refine Dr.ofC TT (by kernel_rfl) [(12, [x.av, cI r.length], cI 0), (10, [x.av], x.av), (13, [x.av, x.av], cB true)] ⟨⟨C3, rfl⟩, ⟨F2, rfl⟩, ⟨hsame, rfl⟩, trivial⟩ ?_
  simp only [go_sem, Option.getD_some, go_sem_proc]
  refine DEnd.of TT 4000 (memOK_of2 (by kernel_rfl)) ?_
  simp only [go_sem, Option.getD_some, go_sem_proc]
end Go.Ev
end
