import Derived.Test.YtnkpjoinejlfdaaGreatDoorMe6
import Derived.Test.YtnkpjoinejlfdaaGreatDoorMk4
section
set_option linter.all false
set_option linter.all false
open Go Go.Proofs Go.RowKit
namespace Go.Ev
def evC (e : Expr) : Option Val := if (evalF [] e).2 = 0 then some (evalF [] e).1 else none
theorem evalL_map {r r' : List Val} {m : Expr → Expr} : ∀ {l : List Expr}, (∀ x, x ∈ l → evalF r' (m x) = evalF r x) → evalL r' (l.map m) = evalL r l
  | [], _ => rfl
  | x :: l, h => by rw [List.map_cons, evalL, evalL, h x (by simp), evalL_map fun y hy => h y (by simp [hy])]
def NoAt (e : Expr) : Prop := (e.op.toList == sAt.toList) = false
theorem evalF_noat {r r' : List Val} (e : Expr) : Expr.All NoAt e → evalF r' e = evalF r e := by
  induction e using Expr.ind with
  | h e ih =>
    intro h
    rw [Expr.All_iff] at h
    have hl := evalL_map (r := r) (r' := r') (m := fun x => x) fun x hx => ih x hx (h.2 x hx)
    rw [List.map_id'] at hl
    rw [evalF_eq, evalF_eq, h.1, hl]
    simp only [Bool.false_eq_true, if_false]
theorem noat_uses (e : Expr) : e.uses [] = [] ↔ Expr.All NoAt e := by
  constructor
  · intro h
    have := uses_all e []
    rw [h] at this
    exact this.imp fun x hx => by
      unfold NoAt
      cases h : (x.op.toList == sAt.toList)
      · rfl
      · exact absurd (hx h) (by simp)
  · intro h
    have := uses_from (fun _ => False) e (h.imp fun x hx ho => by unfold NoAt at hx; rw [hx] at ho; cases ho) [] (by simp)
    exact List.eq_nil_iff_forall_not_mem.2 fun n hn => this n hn
theorem foldE_some {e : Expr} {v : Val} (h : e.uses [] = []) (hv : evC e = some v) : foldE evC e = litE v := by
  rw [foldE_eq, h]; simp only [List.isEmpty_nil, if_true, hv]
theorem foldE_none {e : Expr} (h : e.uses [] = [] → evC e = none) : foldE evC e = .mk e.op e.v e.table e.name (e.l.map (foldE evC)) := by
  rw [foldE_eq]
  by_cases hu : e.uses [] = []
  · rw [hu]; simp only [List.isEmpty_nil, if_true, h hu]
  · have : (e.uses []).isEmpty = false := by
      cases h3 : (e.uses []).isEmpty
      · rfl
      · exact absurd (List.isEmpty_iff.1 h3) hu
    rw [this]; rfl
theorem fold_cases (e : Expr) : (∃ v, e.uses [] = [] ∧ evalF [] e = (v, 0) ∧ foldE evC e = litE v) ∨ ((e.uses [] = [] → evC e = none) ∧ foldE evC e = .mk e.op e.v e.table e.name (e.l.map (foldE evC))) := by
  by_cases h : e.uses [] = [] ∧ (evalF [] e).2 = 0
  · left
    have : evC e = some (evalF [] e).1 := by unfold evC; rw [if_pos h.2]
    exact ⟨_, h.1, Prod.ext rfl h.2, foldE_some h.1 this⟩
  · right
    have : e.uses [] = [] → evC e = none := fun hu => by
      unfold evC; rw [if_neg fun h2 => h ⟨hu, h2⟩]
    exact ⟨this, foldE_none this⟩
theorem evalF_lit (r : List Val) (v : Val) : evalF r (litE v) = (v, 0) := by
  have h : ((litE v).op.toList == sLit.toList) = true := beq_self_eq_true _
  rw [evalF_eq, h, if_pos rfl]; rfl
theorem evalF_mk (r : List Val) (op : ByteArray) (v : Val) (t n : ByteArray) (l : List Expr) : evalF r (.mk op v t n l) = if op.toList == sLit.toList then (v, 0) else if op.toList == sAt.toList then atF r v
    else if (evalL r l).2 ≠ 0 then (zeroV, (evalL r l).2) else if op.toList == sCall.toList then callV n (evalL r l).1 else workV op (evalL r l).1 := by rw [evalF]
theorem evC_eq (e : Expr) : evC e = if (evalF [] e).2 = 0 then some (evalF [] e).1 else none := rfl
theorem fold_val (r : List Val) (e : Expr) : evalF r (foldE evC e) = evalF r e := by
  induction e using Expr.ind with
  | h e ih =>
    rcases fold_cases e with ⟨v, h1, h2, h3⟩ | ⟨h1, h2⟩
    · rw [h3, evalF_lit, evalF_noat (r := []) e ((noat_uses e).1 h1), h2]
    · have hl := evalL_map ih
      rw [h2, evalF_eq r e, evalF_mk]
      simp only [hl]
theorem fold_noat (e : Expr) : Expr.All NoAt (foldE evC e) → Expr.All NoAt e := by
  induction e using Expr.ind with
  | h e ih =>
    intro h
    rcases fold_cases e with ⟨v, h1, h2, h3⟩ | ⟨h1, h2⟩
    · exact (noat_uses e).1 h1
    · rw [h2, Expr.All_iff] at h
      rw [Expr.All_iff]
      exact ⟨h.1, fun x hx => ih x hx (h.2 _ (List.mem_map.2 ⟨x, hx, rfl⟩))⟩
theorem lit_noat (v : Val) : Expr.All NoAt (litE v) := by
  rw [Expr.All_iff]
  exact ⟨(bs_eq [108, 105, 116] [97, 116]).trans rfl, fun x hx => by cases hx⟩
theorem fold_twice (e : Expr) : foldE evC (foldE evC e) = foldE evC e := by
  induction e using Expr.ind with
  | h e ih =>
    rcases fold_cases e with ⟨v, h1, h2, h3⟩ | ⟨h1, h2⟩
    · rw [h3]
      refine foldE_some ((noat_uses _).2 (lit_noat v)) ?_
      unfold evC; rw [evalF_lit, if_pos rfl]
    · have hx : (foldE evC e).uses [] = [] → evC (foldE evC e) = none := fun hu => by
        have h3 := h1 ((noat_uses e).2 (fold_noat e ((noat_uses _).1 hu)))
        rw [evC_eq (foldE evC e), fold_val, ← evC_eq]; exact h3
      rw [foldE_none hx, h2]
      show Expr.mk e.op e.v e.table e.name ((e.l.map (foldE evC)).map (foldE evC)) = _
      rw [List.map_map]
      congr 1
      exact List.map_congr_left fun x hx => ih x hx
theorem fold_all {p q : Expr → Prop} (hlit : ∀ (e : Expr) v, Expr.All p e → e.uses [] = [] → evalF [] e = (v, 0) → q (litE v)) (hmap : ∀ e : Expr, p e → q (.mk e.op e.v e.table e.name (e.l.map (foldE evC)))) (e : Expr) : Expr.All p e → Expr.All q (foldE evC e) := by
  induction e using Expr.ind with
  | h e ih =>
    intro h
    rcases fold_cases e with ⟨v, h1, h2, h3⟩ | ⟨h1, h2⟩
    · rw [h3, Expr.All_iff]
      exact ⟨hlit e v h h1 h2, fun x hx => by cases hx⟩
    · rw [Expr.All_iff] at h
      rw [h2, Expr.All_iff]
      refine ⟨hmap e h.1, fun x hx => ?_⟩
      obtain ⟨y, hy, rfl⟩ := List.mem_map.1 hx
      exact ih y hy (h.2 y hy)
theorem deepL_le {l m : List Expr} (hl : l.length = m.length) (h : ∀ (j : Nat) x y, l[j]? = some x → m[j]? = some y → deepE x ≤ deepE y) : deepL l ≤ deepL m := by
  induction l generalizing m with
  | nil => exact Nat.zero_le _
  | cons x l ih =>
    cases m with
    | nil => simp at hl
    | cons y m =>
      rw [deepL, deepL]
      have h0 := h 0 x y rfl rfl
      have := ih (m := m) (by simpa using hl) fun j x y hx hy => h (j + 1) x y (by simpa using hx) (by simpa using hy)
      omega
theorem fold_deep (e : Expr) : deepE (foldE evC e) ≤ deepE e := by
  induction e using Expr.ind with
  | h e ih =>
    rcases fold_cases e with ⟨v, h1, h2, h3⟩ | ⟨h1, h2⟩
    · rw [h3, deepE_eq, deepE_eq]
      show deepL [] + 1 ≤ _
      rw [deepL]; omega
    · rw [h2, deepE_eq, deepE_eq e]
      refine Nat.add_le_add_right (deepL_le (List.length_map ..) fun j x y hx hy => ?_) 1
      have hx' : (e.l.map (foldE evC))[j]? = some x := hx
      rw [List.getElem?_map, hy] at hx'
      cases hx'
      exact ih y (List.mem_of_getElem? hy)
theorem nodesL_le {l m : List Expr} (hl : l.length = m.length) (h : ∀ (j : Nat) x y, l[j]? = some x → m[j]? = some y → x.nodes ≤ y.nodes) : Expr.nodesL l ≤ Expr.nodesL m := by
  induction l generalizing m with
  | nil => exact Nat.zero_le _
  | cons x l ih =>
    cases m with
    | nil => simp at hl
    | cons y m =>
      rw [Expr.nodesL, Expr.nodesL]
      have h0 := h 0 x y rfl rfl
      have := ih (m := m) (by simpa using hl) fun j x y hx hy => h (j + 1) x y (by simpa using hx) (by simpa using hy)
      omega
theorem fold_nodes (e : Expr) : (foldE evC e).nodes ≤ e.nodes := by
  induction e using Expr.ind with
  | h e ih =>
    rcases fold_cases e with ⟨v, h1, h2, h3⟩ | ⟨h1, h2⟩
    · rw [h3, nodes_eq, nodes_eq e]
      show 1 + Expr.nodesL [] ≤ _
      rw [Expr.nodesL]; omega
    · rw [h2, nodes_eq, nodes_eq e]
      refine Nat.add_le_add_left (nodesL_le (List.length_map ..) fun j x y hx hy => ?_) 1
      have hx' : (e.l.map (foldE evC))[j]? = some x := hx
      rw [List.getElem?_map, hy] at hx'
      cases hx'
      exact ih y (List.mem_of_getElem? hy)
theorem wt_nodes (e : Expr) : Expr.All (fun x => x.v.s.size ≤ 100000) e → wtE e ≤ 100000 * e.nodes := by
  induction e using Expr.ind with
  | h e ih =>
    intro h
    rw [Expr.All_iff] at h
    rw [wtE_eq, nodes_eq]
    have hL : wtL e.l ≤ 100000 * Expr.nodesL e.l := by
      have key : ∀ l : List Expr, (∀ x, x ∈ l → wtE x ≤ 100000 * x.nodes) → wtL l ≤ 100000 * Expr.nodesL l := fun l => by
        induction l with
        | nil => intro _; exact Nat.zero_le _
        | cons x l ihl =>
          intro hx
          rw [wtL, Expr.nodesL]
          have h1 := hx x (by simp)
          have h2 := ihl fun y hy => hx y (by simp [hy])
          omega
      exact key e.l fun x hx => ih x hx (h.2 x hx)
    have := h.1
    split
    · omega
    · split <;> omega
theorem closed_node {m n : Nat} {e : Expr} (h : Expr.All NoAt e) (ha : Expr.All (NodeW n) e) : Expr.All (NodeW m) e :=
  (h.and ha).imp fun x hx => ⟨fun ho => absurd (hx.1.symm.trans ho) (by simp), hx.2.2⟩
theorem fold_wt (n : Nat) (e : Expr) : wtE e ≤ 9000000 → Expr.All (NodeW n) e → wtE (foldE evC e) ≤ wtE e := by
  induction e using Expr.ind with
  | h e ih =>
    intro hw ha
    rcases fold_cases e with ⟨v, h1, h2, h3⟩ | ⟨h1, h2⟩
    · have := (evalF_all [] (by simp) e hw (closed_node ((noat_uses e).1 h1) ha)).1.2
      rw [h2] at this
      have hl : ((litE v).op.toList == sLit.toList) = true := beq_self_eq_true _
      rw [h3, wtE_eq, hl, if_pos rfl]
      exact this
    · rw [Expr.All_iff] at ha
      rw [h2]
      have h4 := wtE_eq e
      rw [wtE_eq, h4]
      show (if e.op.toList == sLit.toList then e.v.s.size else if e.op.toList == sAt.toList then 100000 else 100000 + wtL (e.l.map (foldE evC))) ≤ _
      split
      · exact Nat.le_refl _
      · rename_i g1
        split
        · exact Nat.le_refl _
        · rename_i g2
          rw [if_neg g1, if_neg g2] at h4
          have key : ∀ l : List Expr, (∀ x, x ∈ l → wtE (foldE evC x) ≤ wtE x) → wtL (l.map (foldE evC)) ≤ wtL l := fun l => by
            induction l with
            | nil => intro _; exact Nat.le_refl _
            | cons x l ihl =>
              intro hx
              rw [List.map_cons, wtL, wtL]
              have h1 := hx x (by simp)
              have h2 := ihl fun y hy => hx y (by simp [hy])
              omega
          have := key e.l fun x hx => ih x hx (by have := wtL_mem hx; omega) (ha.2 x hx)
          omega
def headB (e : Expr) : Bool := partsB e.op e.l.length && ((e.op.toList == sLit.toList) || e.v.same zeroV) && (e.table.size == 0) && (if e.op.toList == sLit.toList then e.v.ok && e.name.size == 0 else if e.op.toList == sCall.toList then nameB e.name else e.name.size == 0)
structure NodeOK (n : Int) (e : Expr) : Prop where
  np : notP e = false
  hd : (if e.op.toList == sAt.toList then atB e n else headB e) = true
theorem partsB_lit {op : ByteArray} (h : (op.toList == sLit.toList) = true) (n : Nat) : partsB op n = (n == 0) := by
  have : inB7 op zeroL = true := List.any_eq_true.2 ⟨_, .head _, h⟩
  unfold partsB; rw [this, if_pos rfl]
theorem notP_no {e : Expr} (h : notP e = false) : (e.op.toList == sCol.toList) = false ∧ (e.op.toList == sStar.toList) = false ∧ ((e.op.toList == sCall.toList) = true → inB7 e.name aggL = false) := by
  unfold notP at h
  rw [Bool.or_eq_false_iff, Bool.or_eq_false_iff] at h
  refine ⟨h.1.1, h.1.2, fun h3 => ?_⟩
  have := h.2
  rw [h3, Bool.true_and] at this
  exact this
theorem mayL_iff : ∀ l : List Expr, mayL l = true ↔ ∀ x, x ∈ l → mayE x = true
  | [] => by simp [mayL]
  | x :: l => by rw [mayL, Bool.and_eq_true, mayL_iff l]; simp
theorem count_no {e : Expr} (h : inB7 e.name aggL = false) : countE e = false := by
  have : (e.name.toList == sCount.toList) = false := by
    cases hc : (e.name.toList == sCount.toList)
    · rfl
    · have : inB7 e.name aggL = true := List.any_eq_true.2 ⟨_, .head _, hc⟩
      rw [h] at this; cases this
  unfold countE; rw [this]; rfl
theorem atB_len {e : Expr} {n : Int} (h : atB e n = true) : e.l = [] := by
  unfold atB at h; simp only [Bool.and_eq_true] at h
  exact List.eq_nil_of_length_eq_zero (beq_iff_eq.1 h.2)
theorem deepL_map {f : Expr → Expr} : ∀ {l : List Expr}, (∀ x, x ∈ l → deepE (f x) = deepE x) → deepL (l.map f) = deepL l
  | [], _ => rfl
  | x :: l, h => by rw [List.map_cons, deepL, deepL, h x (by simp), deepL_map fun y hy => h y (by simp [hy])]
theorem may_head (op : ByteArray) (v : Val) (t nm : ByteArray) (l : List Expr) (h1 : (op.toList == sCol.toList) = false) (h2 : (op.toList == sStar.toList) = false) (h3 : (op.toList == sCall.toList) = true → inB7 nm aggL = false) :
    mayE (.mk op v t nm l) = (headB (.mk op v t nm l) && ((op.toList == sLit.toList) || mayL l)) := by
  have e0 : mayE (.mk op v t nm l) = if partsB op l.length = false then false else if (op.toList == sLit.toList) = false ∧ v.same zeroV = false then false else if (op.toList == sCol.toList) = false ∧ (t.size == 0) = false then false
    else if op.toList == sLit.toList then v.ok && nm.size == 0 else if op.toList == sCol.toList then nameB nm && (t.size == 0 || nameB t) else if op.toList == sStar.toList then false
    else if op.toList == sCall.toList then (if nameB nm = false then false else if countE (.mk op v t nm l) then (match l with | x :: _ => eqE x starE | [] => false) else mayL l)
    else if (nm.size == 0) = false then false else mayL l := mayE_eq _
  have e1 : headB (.mk op v t nm l) = (partsB op l.length && ((op.toList == sLit.toList) || v.same zeroV) && (t.size == 0) && (if op.toList == sLit.toList then v.ok && nm.size == 0 else if op.toList == sCall.toList then nameB nm else nm.size == 0)) := rfl
  rw [e0, e1, h1, h2]
  cases pp : partsB op l.length
  · simp
  cases ol : (op.toList == sLit.toList)
  · cases vs : v.same zeroV
    · simp
    cases ts : (t.size == 0)
    · simp
    cases oc : (op.toList == sCall.toList)
    · cases ns : (nm.size == 0) <;> simp
    · have hc : countE (.mk op v t nm l) = false := count_no (e := .mk op v t nm l) (h3 oc)
      rw [hc]
      cases nb : nameB nm <;> simp
  · cases ts : (t.size == 0)
    · simp
    · simp
theorem valid_all (n : Int) (e : Expr) : (namedE n e).2 = true → mayE (namedE n e).1 = true → Expr.All (NodeOK n) e ∧ deepE (namedE n e).1 = deepE e := by
  induction e using Expr.ind with
  | h e ih =>
    intro h1 h2
    rw [namedE_eq] at h1 h2 ⊢
    cases hp : notP e
    case true => rw [hp, if_pos rfl] at h1; cases h1
    rw [hp, if_neg (by simp)] at h1 h2
    rw [if_neg (by simp)]
    cases ha : (e.op.toList == sAt.toList)
    case true =>
      rw [ha, if_pos rfl] at h1 h2
      rw [if_pos rfl, Expr.All_iff]
      have hl := atB_len (e := e) h1
      refine ⟨⟨⟨hp, by rw [ha, if_pos rfl]; exact h1⟩, fun x hx => by rw [hl] at hx; cases hx⟩, ?_⟩
      rw [deepE_eq, deepE_eq e, hl]; rfl
    rw [ha, if_neg (by simp)] at h1 h2
    rw [if_neg (by simp)]
    cases hL : (namedL n e.l).2
    case false => rw [hL, if_neg (by simp)] at h1; cases h1
    have hall : ∀ x, x ∈ e.l → (namedE n x).2 = true := fun x hx => by
      cases hx2 : (namedE n x).2
      · rw [namedL_bad n e.l x hx hx2] at hL; cases hL
      · rfl
    have hok := namedL_ok n e.l hall
    rw [hL, if_pos rfl] at h2
    rw [if_pos rfl]
    rw [hok] at h2 ⊢
    obtain ⟨n1, n2, n3⟩ := notP_no hp
    rw [may_head _ _ _ _ _ n1 n2 n3, Bool.and_eq_true] at h2
    obtain ⟨hh, hm⟩ := h2
    have hh' : headB e = true := by
      have : headB (.mk e.op e.v e.table e.name (e.l.map fun x => (namedE n x).1)) = headB e := by
        unfold headB
        show (partsB e.op (e.l.map fun x => (namedE n x).1).length && _ && _ && _) = _
        rw [List.length_map]; rfl
      rw [← this]; exact hh
    have hkids : ∀ x, x ∈ e.l → Expr.All (NodeOK n) x ∧ deepE (namedE n x).1 = deepE x := fun x hx => by
      refine ih x hx (hall x hx) ?_
      cases ol : (e.op.toList == sLit.toList)
      · rw [ol, Bool.false_or] at hm
        exact (mayL_iff _).1 hm _ (List.mem_map.2 ⟨x, hx, rfl⟩)
      · exfalso
        unfold headB at hh'
        simp only [Bool.and_eq_true] at hh'
        have := hh'.1.1.1
        rw [partsB_lit ol, beq_iff_eq] at this
        rw [List.eq_nil_of_length_eq_zero this] at hx; cases hx
    rw [Expr.All_iff]
    refine ⟨⟨⟨hp, by rw [ha, if_neg (by simp)]; exact hh'⟩, fun x hx => (hkids x hx).1⟩, ?_⟩
    rw [deepE_eq, deepE_eq e]
    show deepL (e.l.map fun x => (namedE n x).1) + 1 = _
    rw [deepL_map fun x hx => (hkids x hx).2]
theorem may_colA : mayE colA = true := by
  have h1 : nameB sA = true := by
    have hs : (sA : ByteArray)[0]? = some 97 := rfl
    unfold nameB
    rw [hs]
    have hr : resB sA = false := by
      unfold resB resL
      simp only [Go.ByteArray.toList_eq]
      decide
    have hn : namesTo sA sA.size = true := by kernel_rfl
    simp only [hr, hn]
    decide
  have e0 := mayE_eq colA
  rw [e0]
  have g1 : partsB colA.op colA.l.length = true := by
    have : inB7 sCol zeroL = true := List.any_eq_true.2 ⟨_, .tail _ (.head _), beq_self_eq_true _⟩
    show partsB sCol 0 = true
    unfold partsB; rw [this]; rfl
  have g2 : (colA.op.toList == sLit.toList) = false := (bs_eq [99, 111, 108] [108, 105, 116]).trans rfl
  have g3 : (colA.op.toList == sCol.toList) = true := beq_self_eq_true _
  have g4 : colA.v.same zeroV = true := same_self _
  have g5 : nameB colA.name = true := h1
  have g6 : (colA.table.size == 0) = true := rfl
  rw [g1, g2, g3, g4, g5, g6]; rfl
theorem all_valid (n : Int) (e : Expr) : Expr.All (NodeOK n) e → (namedE n e).2 = true ∧ mayE (namedE n e).1 = true := by
  induction e using Expr.ind with
  | h e ih =>
    intro h
    rw [Expr.All_iff] at h
    obtain ⟨⟨hp, hd⟩, hk⟩ := h
    rw [namedE_eq, hp, if_neg (by simp)]
    cases ha : (e.op.toList == sAt.toList)
    case true =>
      rw [ha, if_pos rfl] at hd
      rw [if_pos rfl]
      exact ⟨hd, may_colA⟩
    rw [ha, if_neg (by simp)] at hd
    rw [if_neg (by simp)]
    have hall : ∀ x, x ∈ e.l → (namedE n x).2 = true := fun x hx => (ih x hx (hk x hx)).1
    have hok := namedL_ok n e.l hall
    rw [hok, if_pos rfl]
    refine ⟨rfl, ?_⟩
    obtain ⟨n1, n2, n3⟩ := notP_no hp
    show mayE (.mk e.op e.v e.table e.name (e.l.map fun x => (namedE n x).1)) = true
    rw [may_head _ _ _ _ _ n1 n2 n3, Bool.and_eq_true]
    constructor
    · have : headB (.mk e.op e.v e.table e.name (e.l.map fun x => (namedE n x).1)) = headB e := by
        unfold headB
        show (partsB e.op (e.l.map fun x => (namedE n x).1).length && _ && _ && _) = _
        rw [List.length_map]; rfl
      rw [this]; exact hd
    · rw [Bool.or_eq_true]
      right
      rw [mayL_iff]
      intro x hx
      obtain ⟨y, hy, rfl⟩ := List.mem_map.1 hx
      exact (ih y hy (hk y hy)).2
theorem checkN_ok (n : Int) (e : Expr) : checkN n e = 0 ↔ Expr.All (NodeOK n) e ∧ deepE e ≤ 40 := by
  constructor
  · intro h
    unfold checkN at h
    cases h1 : (namedE n e).2
    · rw [h1] at h; exact absurd h (by simp)
    · rw [h1, if_pos rfl] at h
      unfold checkE at h
      cases h2 : mayE (namedE n e).1
      · rw [h2] at h; exact absurd h (by simp)
      · rw [h2, if_pos rfl] at h
        obtain ⟨h3, h4⟩ := valid_all n e h1 h2
        refine ⟨h3, ?_⟩
        rw [h4] at h
        by_cases h5 : deepE e > 40
        · rw [if_pos h5] at h; exact absurd h (by simp)
        · omega
  · rintro ⟨h1, h2⟩
    obtain ⟨h3, h4⟩ := all_valid n e h1
    have h5 := (valid_all n e h3 h4).2
    unfold checkN checkE
    rw [h3, h4, h5, if_pos rfl, if_pos rfl, if_neg (by omega)]
theorem ok_mono {n m : Int} (h : n ≤ m) {e : Expr} : NodeOK n e → NodeOK m e := fun ⟨h1, h2⟩ => ⟨h1, by
  split
  · rename_i ha
    rw [if_pos ha] at h2
    unfold atB at h2 ⊢
    simp only [Bool.and_eq_true, decide_eq_true_eq] at h2 ⊢
    obtain ⟨⟨⟨⟨⟨⟨a, b⟩, c⟩, d⟩, f⟩, g⟩, k⟩ := h2
    exact ⟨⟨⟨⟨⟨⟨a, b⟩, c⟩, by omega⟩, f⟩, g⟩, k⟩
  · rename_i ha
    rw [if_neg ha] at h2
    exact h2⟩
theorem lit_ok (n : Int) {v : Val} (h : v.ok = true) : NodeOK n (litE v) := by
  have o1 : ((litE v).op.toList == sLit.toList) = true := beq_self_eq_true _
  have o2 : ((litE v).op.toList == sCol.toList) = false := (bs_eq [108, 105, 116] [99, 111, 108]).trans rfl
  have o3 : ((litE v).op.toList == sStar.toList) = false := (bs_eq [108, 105, 116] [115, 116, 97, 114]).trans rfl
  have o4 : ((litE v).op.toList == sCall.toList) = false := (bs_eq [108, 105, 116] [99, 97, 108, 108]).trans rfl
  have o5 : ((litE v).op.toList == sAt.toList) = false := (bs_eq [108, 105, 116] [97, 116]).trans rfl
  refine ⟨by unfold notP; rw [o2, o3, o4]; rfl, ?_⟩
  rw [o5, if_neg (by simp)]
  unfold headB
  rw [partsB_lit o1, o1, if_pos rfl, Bool.true_or]
  show (true && true && true && (v.ok && _)) = true
  rw [h]; rfl
theorem ok_litok {n : Int} {e : Expr} (h : NodeOK n e) : LitOK e := fun h1 => by
  have h2 := h.hd
  rw [if_neg (by rw [lit_not_at h1]; simp)] at h2
  unfold headB at h2
  rw [h1, if_pos rfl] at h2
  simp only [Bool.and_eq_true] at h2
  exact h2.2.1
theorem ok_inrow {n : Nat} {e : Expr} (h : NodeOK n e) : InRow n e := fun h1 => by
  have h2 := h.hd
  rw [if_pos h1] at h2
  exact atB_at h2
theorem fold_ok (n : Nat) (e : Expr) (hw : wtE e ≤ 9000000) (ha : Expr.All (NodeW n) e) (h : Expr.All (NodeOK n) e) : Expr.All (NodeOK n) (foldE evC e) := by
  have hp : Expr.All (fun x => NodeOK n x ∧ NodeW n x) e := h.and ha
  revert hp hw
  clear ha h
  induction e using Expr.ind with
  | h e ih =>
    intro hw hp
    rcases fold_cases e with ⟨v, h1, h2, h3⟩ | ⟨h1, h2⟩
    · have hna := (noat_uses e).1 h1
      have := (evalF_all [] (by simp) e hw (closed_node hna (hp.imp fun x hx => hx.2))).2.2 (by simp) (hp.imp fun x hx => ok_litok hx.1) (by rw [h2])
      rw [h2] at this
      rw [h3, Expr.All_iff]
      exact ⟨lit_ok n this, fun x hx => by cases hx⟩
    · rw [Expr.All_iff] at hp
      obtain ⟨⟨⟨p1, p2⟩, p3⟩, hk⟩ := hp
      rw [h2, Expr.All_iff]
      refine ⟨⟨p1, ?_⟩, fun x hx => ?_⟩
      · show (if e.op.toList == sAt.toList then atB (.mk e.op e.v e.table e.name (e.l.map (foldE evC))) n else headB (.mk e.op e.v e.table e.name (e.l.map (foldE evC)))) = true
        have g1 : atB (.mk e.op e.v e.table e.name (e.l.map (foldE evC))) n = atB e n := by
          unfold atB
          show (_ && ((e.l.map (foldE evC)).length == 0)) = _
          rw [List.length_map]; rfl
        have g2 : headB (.mk e.op e.v e.table e.name (e.l.map (foldE evC))) = headB e := by
          unfold headB
          show (partsB e.op (e.l.map (foldE evC)).length && _ && _ && _) = _
          rw [List.length_map]; rfl
        rw [g1, g2]; exact p2
      · obtain ⟨y, hy, rfl⟩ := List.mem_map.1 hx
        cases ha : (e.op.toList == sAt.toList)
        · cases hl : (e.op.toList == sLit.toList)
          · refine ih y hy ?_ (hk y hy)
            rw [wtE_eq, ha, hl] at hw
            have := wtL_mem hy
            simp only [Bool.false_eq_true, if_false] at hw
            omega
          · rw [ha, if_neg (by simp)] at p2
            unfold headB at p2
            rw [partsB_lit hl] at p2
            simp only [Bool.and_eq_true] at p2
            rw [List.eq_nil_of_length_eq_zero (beq_iff_eq.1 p2.1.1.1)] at hy; cases hy
        · rw [ha, if_pos rfl] at p2
          rw [atB_len p2] at hy; cases hy
end Go.Ev
end
