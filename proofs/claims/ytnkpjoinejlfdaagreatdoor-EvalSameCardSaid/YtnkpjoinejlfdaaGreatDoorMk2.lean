import Derived.Test.YtnkpjoinejlfdaaGreatDoorMe5
import Derived.Test.YtnkpjoinejlfdaaGreatDoorMr3
import Derived.Test.YtnkpjoinejlfdaaGreatDoorMk1
import Derived.Test.YtnkpjoinejlfdaaGreatDoorMr1
section
set_option linter.all false
set_option linter.all false
open Go Go.Proofs Go.RowKit
namespace Go.Ev
def AtIn (n : Int) (e : Expr) : Prop := (e.op.toList == sAt.toList) = true → atB e n = true
theorem named_all (n : Int) (e : Expr) : (namedE n e).2 = true → Expr.All (AtIn n) e := by
  induction e using Expr.ind with
  | h e ih =>
    intro h
    rw [namedE_eq] at h
    rw [Expr.All_iff]
    cases h1 : notP e
    case true => rw [h1] at h; exact absurd h (by simp)
    rw [h1] at h
    cases h2 : (e.op.toList == sAt.toList)
    case true =>
      rw [h2] at h
      have h3 : atB e n = true := by simpa using h
      have h4 : (e.l.length == 0) = true := by unfold atB at h3; simp only [Bool.and_eq_true] at h3; exact h3.2
      have h5 : e.l = [] := List.eq_nil_of_length_eq_zero (beq_iff_eq.1 h4)
      exact ⟨fun _ => h3, fun x hx => by rw [h5] at hx; cases hx⟩
    rw [h2] at h
    refine ⟨fun h5 => absurd (h2.symm.trans h5) (by simp), fun x hx => ih x hx ?_⟩
    cases h6 : (namedE n x).2
    · rw [namedL_bad n e.l x hx h6] at h; exact absurd h (by simp)
    · rfl
theorem sum_nodes (l : List Expr) : (l.map fun x => 100000 * x.nodes).sum = 100000 * Expr.nodesL l := by
  induction l with
  | nil => simp [Expr.nodesL]
  | cons x l ih => rw [List.map_cons, List.sum_cons, ih, Expr.nodesL, Nat.mul_add]
theorem nodes_one (e : Expr) : 1 ≤ e.nodes := by rw [nodes_eq]; omega
theorem both_map {r r' : List Val} (m : Expr → Expr) (p : Expr → Prop) (hm : ∀ x, (x.op.toList == sAt.toList) = false → m x = .mk x.op x.v x.table x.name (x.l.map m))
    (hat : ∀ x, p x → (x.op.toList == sAt.toList) = true → ∃ v : Val, I64 v.i ∧ v.s.size ≤ 100000 ∧ EvalR r x v 0 ∧ EvalR r' (m x) v 0)
    (hlit : ∀ x, p x → (x.op.toList == sLit.toList) = true → I64 x.v.i ∧ x.v.s.size ≤ 100000)
    (e : Expr) (hn : e.nodes ≤ 60) (ha : Expr.All p e) : Both r r' (100000 * e.nodes) e (m e) := by
  revert hn ha
  induction e using Expr.ind with
  | h e ih =>
    intro hn ha
    rw [Expr.All_iff] at ha
    have h1n := nodes_one e
    cases h2 : (e.op.toList == sAt.toList)
    case true =>
      obtain ⟨v, hi, hs, hr, hr'⟩ := hat e ha.1 h2
      exact ⟨(v, 0), ⟨hi, by show v.s.size ≤ _; omega⟩, hr, hr'⟩
    cases h1 : (e.op.toList == sLit.toList)
    case true =>
      obtain ⟨hi, hs⟩ := hlit e ha.1 h1
      refine ⟨(e.v, 0), ⟨hi, by show e.v.s.size ≤ _; omega⟩, Eval_lit r e h1, ?_⟩
      rw [hm e h2]
      exact Eval_lit r' _ h1
    have hll := nodesL_len e.l
    have hne := nodes_eq e
    have hB : Both r r' (100000 + (e.l.map fun x => 100000 * x.nodes).sum) e (m e) := both_node (by rw [hm e h2]; rfl) (by rw [hm e h2]; rfl) h1 h2 (by rw [hm e h2]; exact List.length_map ..) (by omega) (fun x => 100000 * x.nodes) (by rw [sum_nodes]; omega) fun j x y hx hy => by
      rw [hm e h2] at hy
      have hy' : (e.l.map m)[j]? = some y := hy
      rw [List.getElem?_map, hx] at hy'
      cases hy'
      have hmem := List.mem_of_getElem? hx
      exact ih x hmem (by have := nodesL_mem hmem; omega) (ha.2 x hmem)
    obtain ⟨q, ⟨q1, q2⟩, q3, q4⟩ := hB
    rw [sum_nodes] at q2
    exact ⟨q, ⟨q1, by rw [hne, Nat.mul_add]; omega⟩, q3, q4⟩
theorem atB_at {e : Expr} {n : Int} (h : atB e n = true) : 0 ≤ e.v.i ∧ e.v.i < n := by
  unfold atB at h; simp only [Bool.and_eq_true, decide_eq_true_eq] at h
  exact ⟨h.1.1.1.1.2, h.1.1.1.2⟩
theorem at_not_lit {e : Expr} (h : (e.op.toList == sAt.toList) = true) : (e.op.toList == sLit.toList) = false := by
  rw [eq_of_beq h]; exact (bs_eq [97, 116] [108, 105, 116]).trans rfl
theorem moveE_at {b : Int} {op : ByteArray} {v : Val} {t n : ByteArray} {l : List Expr} (h : (op.toList == sAt.toList) = true) : moveE b (.mk op v t n l) = .mk op ⟨v.k, IntKind.wrap .i64 (v.i + b), v.s⟩ t n l := by rw [moveE, if_pos h]
theorem moveE_no {b : Int} {op : ByteArray} {v : Val} {t n : ByteArray} {l : List Expr} (h : ¬ (op.toList == sAt.toList) = true) : moveE b (.mk op v t n l) = .mk op v t n (l.map (moveE b)) := by rw [moveE, if_neg h, moveL_map]
theorem both_move {r a : List Val} (ha : a.length + r.length ≤ 1000) (hr : ∀ v, v ∈ r → I64 v.i ∧ v.s.size ≤ 100000) (e : Expr) (hn : e.nodes ≤ 60) (h : Expr.All (AtIn r.length) e) (hl : Expr.All (fun x => I64 x.v.i ∧ x.v.s.size ≤ 100000) e) :
    Both r (a ++ r) (100000 * e.nodes) e (moveE a.length e) := by
  refine both_map (moveE a.length) (fun x => AtIn r.length x ∧ (I64 x.v.i ∧ x.v.s.size ≤ 100000)) (fun x hx => by rw [moveE_eq, if_neg (by rw [hx]; simp)]) ?_ (fun x hx _ => hx.2) e hn (h.and hl)
  intro x hx ho
  obtain ⟨b1, b2⟩ := atB_at (hx.1 ho)
  obtain ⟨j, hj⟩ : ∃ j : Nat, x.v.i = j := ⟨x.v.i.toNat, by omega⟩
  have hjr : j < r.length := by omega
  have hg := List.getElem?_eq_getElem hjr
  have hv := hr _ (List.getElem_mem hjr)
  refine ⟨_, hv.1, hv.2, Eval_at r x (at_not_lit ho) ho hj hg, ?_⟩
  rw [moveE_eq, if_pos ho]
  refine Eval_at (a ++ r) (.mk x.op ⟨x.v.k, IntKind.wrap .i64 (x.v.i + (a.length : Int)), x.v.s⟩ x.table x.name x.l) (at_not_lit (e := x) ho) ho (j := a.length + j) ?_ ?_
  · show IntKind.wrap .i64 (x.v.i + (a.length : Int)) = _
    rw [hj, wrap_id (by omega) (by omega)]; omega
  · rw [List.getElem?_append_right (by omega), Nat.add_sub_cancel_left]; exact hg
theorem both_same {r t : List Val} (hr : ∀ v, v ∈ r → I64 v.i ∧ v.s.size ≤ 100000) (e : Expr) (hn : e.nodes ≤ 60) (h : Expr.All (fun x => AtIn r.length x ∧ ((x.op.toList == sAt.toList) = true → t[x.v.i.toNat]? = r[x.v.i.toNat]?)) e) (hl : Expr.All (fun x => I64 x.v.i ∧ x.v.s.size ≤ 100000) e) :
    Both r t (100000 * e.nodes) e e := by
  refine both_map (fun x => x) (fun x => (AtIn r.length x ∧ ((x.op.toList == sAt.toList) = true → t[x.v.i.toNat]? = r[x.v.i.toNat]?)) ∧ (I64 x.v.i ∧ x.v.s.size ≤ 100000)) (fun x _ => by cases x; simp [Expr.op, Expr.v, Expr.table, Expr.name, Expr.l]) ?_ (fun x hx _ => hx.2) e hn (h.and hl)
  intro x hx ho
  obtain ⟨b1, b2⟩ := atB_at (hx.1.1 ho)
  obtain ⟨j, hj⟩ : ∃ j : Nat, x.v.i = j := ⟨x.v.i.toNat, by omega⟩
  have hjr : j < r.length := by omega
  have hg := List.getElem?_eq_getElem hjr
  have hv := hr _ (List.getElem_mem hjr)
  refine ⟨_, hv.1, hv.2, Eval_at r x (at_not_lit ho) ho hj hg, Eval_at t x (at_not_lit ho) ho hj ?_⟩
  have := hx.1.2 ho
  rw [hj] at this
  rw [show (j : Int).toNat = j from rfl] at this
  rw [this]; exact hg
theorem move_back (n k : Nat) (hk : k ≤ 1000) (hn : n ≤ 1000) (e : Expr) (h : Expr.All (AtIn n) e) : moveE (-(k : Int)) (moveE k e) = e := by
  revert h
  induction e using Expr.ind with
  | h e ih =>
    intro h
    rw [Expr.All_iff] at h
    rw [moveE_eq k e]
    split
    · rename_i ho
      obtain ⟨b1, b2⟩ := atB_at (h.1 ho)
      rw [moveE_at ho]
      show Expr.mk e.op ⟨e.v.k, IntKind.wrap .i64 (IntKind.wrap .i64 (e.v.i + (k : Int)) + -(k : Int)), e.v.s⟩ e.table e.name e.l = e
      rw [wrap_id (a := e.v.i + (k : Int)) (by omega) (by omega), wrap_id (by omega) (by omega), show e.v.i + (k : Int) + -(k : Int) = e.v.i by omega]
      cases e; rfl
    · rename_i ho
      rw [moveE_no ho]
      show Expr.mk e.op e.v e.table e.name ((e.l.map (moveE k)).map (moveE (-(k : Int)))) = e
      rw [List.map_map]
      have : e.l.map (moveE (-(k : Int)) ∘ moveE k) = e.l := by
        conv => rhs; rw [← List.map_id e.l]
        exact List.map_congr_left fun x hx => ih x hx (h.2 x hx)
      rw [this]; cases e; rfl
end Go.Ev
end
section
set_option linter.all false
set_option linter.all false
open Go Go.Proofs
namespace Go.Ev
def fewB (e : Expr) : Bool := decide (0 ≤ leftE e 60) && lightE e
def bigB (r : List Val) (es : List Expr) : Bool := es.any (fun e => !fewB e) || !decide (cnt [r] ≤ 600)
def wideB (r : List Val) (es : List Expr) : Bool := es.all (fun e => checkN r.length e == 0) && checkRowS r == 0
set_option maxRecDepth 100000 in
set_option maxHeartbeats 2000000 in
theorem big_good (r : List Val) (es : List Expr) (hs : ∀ v, v ∈ r → v.s.size ≤ 281474976710656) (hl : es.length ≤ 1000) : Good Tryz.prog 8 [.c (rowC r), .c (.lst 7 false (es.map Expr.cs))] [] (cB (bigB r es)) [] := by
  refine Good.of_vmQ TT 4000 Tryz.func8 rfl rfl ?_
  unfold Tryz.f8
  simp only [go_sem, Option.getD_some, go_sem_proc]
  refine Lp.at TT 4000 0 (Nat.le_of_ble_eq_true rfl) [false, false, false, false, true, false, true, false, false, true, true, true, true, true, true, true, true, true, true, true, true, true] (fun j : Nat => es.length - j) (fun j => j ≤ es.length ∧ (es.take j).any (fun e => !fewB e) = false) (fun j => [(9, cI j)]) (fun _ => []) (0) (⟨Nat.zero_le _, rfl⟩) ?_ ?_
  · simp only [go_sem, Option.getD_some, go_sem_proc]
  · rintro j ⟨i1, i2⟩
    rcases Nat.lt_or_ge j es.length with hlt | hge
    · obtain ⟨x, hx, hm, ht, hd⟩ := getS hlt
      have hw := wrap_succ (j := j) (by omega)
      have hany : fewB x = false → bigB r es = true := fun h => by
        unfold bigB
        rw [List.any_eq_true.2 ⟨x, hm, by rw [h]; rfl⟩]; rfl
      simp only [go_sem, hlt, hx, Option.getD_some, go_sem_proc]
      refine Cl.pure TT 4000 (r07_Few x 60 (by omega) (by omega)) rfl rfl ?_
      cases hf : decide (0 ≤ leftE x 60)
      · have hb := hany (by unfold fewB; rw [hf]; rfl)
        simp only [go_sem, hf, hb, Option.getD_some, go_sem_proc]
      simp only [go_sem, hf, Option.getD_some, go_sem_proc]
      refine Cl.pure TT 4000 (r10_Light x) rfl rfl ?_
      cases hg : lightE x
      · have hb := hany (by unfold fewB; rw [hg]; exact Bool.and_false _)
        simp only [go_sem, hf, hg, hb, Option.getD_some, go_sem_proc]
      simp only [go_sem, hf, hg, hw, Option.getD_some, go_sem_proc]
      exact ⟨j + 1, by omega, ⟨by omega, by rw [ht, List.any_append, i2]; simp [fewB, hf, hg]⟩, Fit1.of_eq rfl⟩
    · have : j = es.length := by omega
      subst this
      rw [List.take_length] at i2
      have hb : bigB r es = !decide (cnt [r] ≤ 600) := by unfold bigB; rw [i2]; rfl
      simp only [go_sem, Nat.lt_irrefl, Option.getD_some, go_sem_proc]
      refine Cl.pure TT 4000 (ref_Few [r] 600 (by omega) (by simp) (fun r' hr' v hv => by rw [List.mem_singleton] at hr'; exact hs v (hr' ▸ hv))) rfl rfl ?_
      simp only [go_sem, hb, Option.getD_some, go_sem_proc]
set_option maxRecDepth 100000 in
set_option maxHeartbeats 2000000 in
theorem wide_good (r : List Val) (es : List Expr) (hn : ∀ e, e ∈ es → e.nodes ≤ 1000000) (hl : es.length ≤ 1000) : Good Tryz.prog 9 [.c (rowC r), .c (.lst 7 false (es.map Expr.cs))] [] (cB (wideB r es)) [] := by
  refine Good.of_vmQ TT 4000 Tryz.func9 rfl rfl ?_
  unfold Tryz.f9
  simp only [go_sem, Option.getD_some, go_sem_proc]
  refine Lp.at TT 4000 0 (Nat.le_of_ble_eq_true rfl) [false, false, false, false, true, false, true, false, false, true, true, true, true, true, true, true, true, true, true] (fun j : Nat => es.length - j) (fun j => j ≤ es.length ∧ (es.take j).all (fun e => checkN r.length e == 0) = true) (fun j => [(9, cI j)]) (fun _ => []) (0) (⟨Nat.zero_le _, rfl⟩) ?_ ?_
  · simp only [go_sem, Option.getD_some, go_sem_proc]
  · rintro j ⟨i1, i2⟩
    rcases Nat.lt_or_ge j es.length with hlt | hge
    · obtain ⟨x, hx, hm, ht, hd⟩ := getS hlt
      have hw := wrap_succ (j := j) (by omega)
      simp only [go_sem, hlt, hx, Option.getD_some, go_sem_proc]
      refine Cl.pure TT 4000 (r10_Check x r.length (hn x hm)) rfl rfl ?_
      by_cases hc : checkN r.length x = 0
      · simp only [go_sem, hc, hw, Option.getD_some, go_sem_proc]
        exact ⟨j + 1, by omega, ⟨by omega, by rw [ht, List.all_append, i2]; simp [hc]⟩, Fit1.of_eq rfl⟩
      · have hc' : (checkN r.length x != 0) = true := bne_iff_ne.2 hc
        have hb : wideB r es = false := by
          unfold wideB
          have : es.all (fun e => checkN r.length e == 0) = false := by
            rw [Bool.eq_false_iff]; intro h
            have := List.all_eq_true.1 h x hm
            exact hc (by simpa using this)
          rw [this]; rfl
        simp only [go_sem, hc', hb, Option.getD_some, go_sem_proc]
    · have : j = es.length := by omega
      subst this
      rw [List.take_length] at i2
      have hb : wideB r es = (checkRowS r == 0) := by unfold wideB; rw [i2]; rfl
      simp only [go_sem, Nat.lt_irrefl, Option.getD_some, go_sem_proc]
      refine Cl.pure TT 4000 (ref_CheckRow r) rfl rfl ?_
      simp only [go_sem, hb, Option.getD_some, go_sem_proc]
end Go.Ev
end
section
set_option linter.all false
set_option linter.all false
open Go Go.Proofs
namespace Go.Ev
theorem lightL_iff : ∀ l : List Expr, lightL l = true ↔ ∀ x, x ∈ l → lightE x = true
  | [] => by simp [lightL]
  | x :: l => by simp [lightL, lightL_iff l]
theorem light_all (e : Expr) : lightE e = true → Expr.All (fun x => x.v.s.size ≤ 60) e := by
  induction e using Expr.ind with
  | h e ih =>
    intro h
    rw [lightE_eq] at h
    simp only [Bool.and_eq_true, decide_eq_true_eq] at h
    rw [Expr.All_iff]
    exact ⟨h.1.1.1, fun x hx => ih x hx ((lightL_iff _).1 h.2 x hx)⟩
theorem cnt_le {r : List Val} (h : cnt [r] ≤ 600) : r.length ≤ 600 ∧ ∀ v, v ∈ r → v.s.size ≤ 600 := by
  have h6 : ∀ l : List Val, l.length ≤ cntR l ∧ ∀ v, v ∈ l → v.s.size ≤ cntR l := fun l => by
    induction l with
    | nil => exact ⟨by simp [cntR], fun v hv => by cases hv⟩
    | cons x l ih =>
      obtain ⟨i1, i2⟩ := ih
      have h7 : cntR (x :: l) = 1 + x.s.size + cntR l := by simp [cntR]
      refine ⟨by rw [List.length_cons]; omega, fun v hv => ?_⟩
      rcases List.mem_cons.1 hv with rfl | hv
      · omega
      · have := i2 v hv; omega
  obtain ⟨h1, h2⟩ := h6 r
  have h3 : cnt [r] = 1 + cntR r := by simp [cnt]
  exact ⟨by omega, fun v hv => by have := h2 v hv; omega⟩
theorem big_no {r : List Val} {es : List Expr} (h : bigB r es = false) : (r.length ≤ 600 ∧ ∀ v, v ∈ r → v.s.size ≤ 600) ∧ ∀ e, e ∈ es → e.nodes ≤ 60 ∧ lightE e = true := by
  unfold bigB at h
  simp only [Bool.or_eq_false_iff, Bool.not_eq_false', decide_eq_true_eq] at h
  refine ⟨cnt_le h.2, fun e he => ?_⟩
  have h1 := List.any_eq_false.1 h.1 e he
  have h2 : fewB e = true := by simpa using h1
  unfold fewB at h2
  simp only [Bool.and_eq_true, decide_eq_true_eq] at h2
  have h3 := left_nodes e 60 h2.1
  exact ⟨by omega, h2.2⟩
theorem wide_yes {r : List Val} {e : Expr} (h : wideB r [e] = true) : Expr.All (AtIn r.length) e ∧ checkRowS r = 0 := by
  unfold wideB at h
  simp only [List.all_cons, List.all_nil, Bool.and_true, Bool.and_eq_true, beq_iff_eq] at h
  refine ⟨named_all _ e ?_, h.2⟩
  have h1 := h.1
  unfold checkN at h1
  split at h1
  · assumption
  · cases h1
theorem len_all (e : Expr) : e.nodes ≤ 60 → Expr.All (fun x => x.l.length ≤ 1000000) e := by
  induction e using Expr.ind with
  | h e ih =>
    intro h
    rw [Expr.All_iff]
    have h1 := nodes_eq e
    have h2 := nodesL_len e.l
    exact ⟨by omega, fun x hx => ih x hx (by have := nodesL_mem hx; omega)⟩
theorem move_len (b : Int) (e : Expr) : Expr.All (fun x => x.l.length ≤ 1000000) e → Expr.All (fun x => x.l.length ≤ 1000000) (moveE b e) := by
  induction e using Expr.ind with
  | h e ih =>
    intro h
    rw [Expr.All_iff] at h
    rw [moveE_eq]
    split
    · rw [Expr.All_iff]; exact h
    · rw [Expr.All_iff]
      refine ⟨Nat.le_trans (Nat.le_of_eq (List.length_map ..)) h.1, fun x hx => ?_⟩
      obtain ⟨y, hy, rfl⟩ := List.mem_map.1 hx
      exact ih y hy (h.2 y hy)
theorem one_cs (e : Expr) : [e].map Expr.cs = [[.str e.op, .int .i64 e.v.k, .int .i64 e.v.i, .str e.v.s, .str e.table, .str e.name, .lst 7 false (e.l.map Expr.cs)]] := by rw [List.map_cons, List.map_nil, Expr.cs_eq]
set_option maxRecDepth 100000 in
set_option maxHeartbeats 4000000 in
theorem evalMoves_good (L : Good Tryz.prog 7 [] [] (cB true) []) (e : Expr) (r a : List Val) (he : Expr.All (fun x => I64 x.v.i) e) (hr : ∀ x, x ∈ r → I64 x.i) (ha : ∀ x, x ∈ a → I64 x.i) (hrs : ∀ x, x ∈ r → x.s.size ≤ 281474976710656) (has : ∀ x, x ∈ a → x.s.size ≤ 281474976710656) :
    Good Tryz.prog 6 [e.av, .c (rowC r), .c (rowC a)] [] (cB true) [] := by
  refine Good.of_vmQ TT 8000 Tryz.func6 rfl rfl ?_
  unfold Tryz.f6
  simp only [go_sem, Option.getD_some, go_sem_proc]
  refine Cl.pure TT 8000 L rfl rfl ?_
  simp only [go_sem, Option.getD_some, go_sem_proc]
  have B1 := big_good r [e] hrs (by simp)
  rw [one_cs] at B1
  refine Cl.pure TT 8000 B1 rfl rfl ?_
  cases c1 : bigB r [e]
  case true => simp only [go_sem, c1, Option.getD_some, go_sem_proc]
  simp only [go_sem, c1, Option.getD_some, go_sem_proc]
  have B3 := big_good a [] has (by simp)
  have B4 : Good Tryz.prog 8 [.c (rowC a), .c .nl] [] (cB (bigB a [])) [] := Good.le_args (.cons (Le.refl _) (.cons (Le.c (CLe.nl 7 false)) .nil)) B3
  refine Cl.pure TT 8000 B4 rfl rfl ?_
  cases c2 : bigB a []
  case true => simp only [go_sem, c1, c2, Option.getD_some, go_sem_proc]
  obtain ⟨⟨r1, r2⟩, e1⟩ := big_no c1
  obtain ⟨e1, e2⟩ := e1 e (by simp)
  obtain ⟨⟨a1, a2⟩, _⟩ := big_no c2
  simp only [go_sem, c1, c2, Option.getD_some, go_sem_proc]
  have B2 := wide_good r [e] (fun x hx => by rw [List.mem_singleton] at hx; subst hx; omega) (by simp)
  rw [one_cs] at B2
  refine Cl.pure TT 8000 B2 rfl rfl ?_
  cases c3 : wideB r [e]
  case false => simp only [go_sem, c1, c2, c3, Option.getD_some, go_sem_proc]
  obtain ⟨w1, w2⟩ := wide_yes c3
  simp only [go_sem, c1, c2, c3, Option.getD_some, go_sem_proc]
  refine Cl.pure TT 8000 (ref_CheckRow a) rfl rfl ?_
  by_cases c4 : checkRowS a = 0
  case neg =>
    have c4' : (checkRowS a != 0) = true := bne_iff_ne.2 c4
    simp only [go_sem, c1, c2, c3, c4', Option.getD_some, go_sem_proc]
  have c5 : IntKind.wrap .i64 ((a.length : Int) + (r.length : Int)) = ((a.length + r.length : Nat) : Int) := by rw [wrap_id (by omega) (by omega)]; omega
  by_cases c6 : a.length + r.length ≤ 60
  case neg =>
    have c6' : decide ((((a.length + r.length : Nat) : Int)) > 60) = true := decide_eq_true (by omega)
    have c6'' : (((a.length + r.length : Nat) : Int)) > 60 := by omega
    simp only [go_sem, c1, c2, c3, c4, c5, c6', c6'', Option.getD_some, go_sem_proc]
  have c6'' : ¬ (((a.length + r.length : Nat) : Int)) > 60 := by omega
  simp only [go_sem, c1, c2, c3, c4, c5, c6'', Option.getD_some, go_sem_proc]
  have M := move_good a.length e (len_all e e1)
  have e3 : Expr.All (fun x => I64 x.v.i ∧ x.v.s.size ≤ 100000) e := (he.and (light_all e e2)).imp fun x h => ⟨h.1, by omega⟩
  obtain ⟨p, _, P1, P2⟩ := both_move (a := a) (by omega) (fun v hv => ⟨hr v hv, by have := r2 v hv; omega⟩) e e1 w1 e3
  have M2 := move_back r.length a.length (by omega) (by omega) e w1
  have M3 := move_good (-(a.length : Int)) (moveE a.length e) (move_len _ _ (len_all e e1))
  rw [M2] at M3
  have hng : IntKind.wrap .i64 (0 - (a.length : Int)) = -(a.length : Int) := by rw [wrap_id (by omega) (by omega)]; omega
  have hsame := r07_Same e e
  rw [eqE_self] at hsame
  generalize moveE a.length e = m at M P2 M2 M3
  refine Cl.pure TT 8000 M rfl rfl ?_
  simp only [go_sem, Option.getD_some, go_sem_proc]
  refine Cl.pure TT 8000 P1 rfl rfl ?_
  simp only [go_sem, Option.getD_some, go_sem_proc]
  have hka : ((List.map Val.cs a).all fun y => y.length == 3) = true := List.all_eq_true.2 fun y hy => by
    obtain ⟨z, _, rfl⟩ := List.mem_map.1 hy; rfl
  have hkr : ((List.map Val.cs r).all fun y => y.length == 3) = true := List.all_eq_true.2 fun y hy => by
    obtain ⟨z, _, rfl⟩ := List.mem_map.1 hy; rfl
  have t1 : List.take (a.length + r.length) (List.map Val.cs a ++ List.map Val.cs r) = List.map Val.cs (a ++ r) := by
    rw [← List.map_append]; exact List.take_of_length_le (by simp)
  have t2 : a.length + r.length ≤ (List.map Val.cs a ++ List.map Val.cs r).length := by simp
  refine Dr.ofC TT (by kernel_rfl) [(11, [m.av, .c (rowC (a ++ r))], vals p.1 p.2)] ⟨⟨P2, rfl⟩, trivial⟩ ?_
  simp only [go_sem, hka, hkr, Nat.zero_add, t1, t2, Option.getD_some, go_sem_proc]
  refine ⟨by omega, by omega, ?_⟩
  refine DEnd.of TT 4000 (memOK_of2 (by kernel_rfl)) ?_
  simp only [go_sem, Option.getD_some, go_sem_proc]
  refine Dr.ofC TT (by kernel_rfl) [(21, [m.av, cI (-(a.length : Int))], e.av), (13, [e.av, e.av], cB true)] ⟨⟨M3, rfl⟩, ⟨hsame, rfl⟩, trivial⟩ ?_
  simp only [go_sem, hng, Option.getD_some, go_sem_proc]
  refine DEnd.of TT 4000 (memOK_of2 (by kernel_rfl)) ?_
  simp only [go_sem, Option.getD_some, go_sem_proc]
end Go.Ev
end
