/-  A region whose order is open, by what stays true: an invariant on what is done so far, kept by each operation wherever it may come. -/
import Derived.Test.YtddnkjeogidfcaaDoorQTail
namespace Go.Proofs.YtddnkjeogidfcaaDoor
open Go.RowKit
variable {P : Program} {l : List Oper}

/-- Nothing waits for what comes later; no guards. -/
def inOrder (ops : List Oper) : Bool :=
  (List.range ops.length).all fun j => match ops[j]? with
    | some o => (o.after.all fun e => !Region.binds .any e || decide (e.on < j)) && o.guard.isNone
    | none => true

theorem inOrder_edge (h : inOrder l = true) {j : Nat} {o : Oper} (hj : l[j]? = some o) {e : Edge} (he : e ∈ o.after) (hb : Region.binds .any e = true) : e.on < j := by
  simp only [inOrder, List.all_eq_true, List.mem_range] at h
  have hlt := (List.getElem?_eq_some_iff.1 hj).1
  have := h j hlt
  rw [hj] at this
  simp only [Bool.and_eq_true, Array.all_eq_true_iff_forall_mem] at this
  have h1 := this.1 e he
  rw [hb] at h1
  simpa using h1

theorem ready_nil_all (h : inOrder l = true) {listed : Array Bool} (hs : listed.size = l.length) (h0 : Region.ready .any l.toArray listed = []) : ∀ j, j < l.length → listed.getD j false = true := by
  intro j
  induction j using Nat.strongRecOn with
  | _ j ih =>
    intro hj
    cases hb : listed.getD j false with
    | true => rfl
    | false =>
      have hjl : j < listed.size := by omega
      have hun : listed.getD j true = false := by simp [hjl] at hb ⊢; exact hb
      have : j ∈ Region.ready .any l.toArray listed :=
        mem_ready.2 ⟨hun, l[j]'hj, by simp, fun e he hb =>
          ih _ (inOrder_edge h (List.getElem?_eq_getElem hj) he hb) (by have := inOrder_edge h (List.getElem?_eq_getElem hj) he hb; omega)⟩
      rw [h0] at this; cases this

theorem countP_less {p q : Nat → Bool} : ∀ (l : List Nat), (∀ x, x ∈ l → q x = true → p x = true) → ∀ i, i ∈ l → p i = true → q i = false → l.countP q < l.countP p
  | [], _, i, hi, _, _ => by cases hi
  | x :: l, h, i, hi, hp, hq => by
    rcases List.mem_cons.1 hi with rfl | hi
    · have := List.countP_mono_left (l := l) (p := q) (q := p) (fun y hy => h y (List.mem_cons_of_mem _ hy))
      rw [List.countP_cons, List.countP_cons, hp, hq]
      simp only [Bool.false_eq_true, if_false, if_true]
      omega
    · have ih := countP_less l (fun y hy => h y (List.mem_cons_of_mem _ hy)) i hi hp hq
      have hx := h x (List.mem_cons_self ..)
      rw [List.countP_cons, List.countP_cons]
      cases hqx : q x with
      | true => rw [hx hqx]; omega
      | false => simp only [Bool.false_eq_true, if_false]; omega

/-- THE LAW. d: what is done. -/
theorem wp_region_inv {id : Nat} {Q : Exit → Act → World → Prop} {a : Act} {w : World} (I : (Nat → Bool) → Act → World → Prop) (hm : P.follows .mixedOrders = true) (hI : inOrder l = true)
    (h0 : I (fun _ => false) a { w with drawn := w.drawn + 1 })
    (hstep : ∀ (i : Nat) (o : Oper), l[i]? = some o → ∀ (d : Nat → Bool) (a : Act) (w : World), d i = false → (∀ e ∈ o.after, Region.binds .any e = true → d e.on = true) → I d a w →
      wpOp P l.toArray Q i (fun a' w' => I (fun j => d j || j == i) a' w') a w)
    (hend : ∀ (d : Nat → Bool) (a : Act) (w : World), (∀ j, j < l.length → d j = true) → I d a w → Q .normal a w) : (Code.region id l.toArray true).wp P Q a w := by
  refine wp_region_any hm ?_
  have key : ∀ (f : Nat) (listed : Array Bool) (d : Nat → Bool) (a : Act) (w : World), listed.size = l.length → (∀ j, j < l.length → listed.getD j false = d j) → ((List.range l.length).countP fun j => !d j) ≤ f → I d a w → wpAny P .any l.toArray Q f listed a w := by
    intro f
    induction f with
    | zero =>
      intro listed d a w hs hd hc hi
      have hall : ∀ j, j < l.length → d j = true := by
        intro j hj
        have h1 := List.countP_eq_zero.1 (Nat.le_zero.1 hc) j (List.mem_range.2 hj)
        simpa using h1
      refine ⟨List.eq_nil_iff_forall_not_mem.2 fun j hj => ?_, hend d a w hall hi⟩
      obtain ⟨h1, o, ho, _⟩ := mem_ready.1 hj
      have hlt : j < l.length := by have := (Array.getElem?_eq_some_iff.1 ho).1; simpa using this
      have := getD_true' ((hd j hlt).trans (hall j hlt))
      rw [this] at h1; cases h1
    | succ f ih =>
      intro listed d a w hs hd hc hi
      refine ⟨fun hn => hend d a w (fun j hj => (hd j hj).symm.trans (ready_nil_all hI hs hn j hj)) hi, fun i hir => ?_⟩
      obtain ⟨h1, o, ho, hedge⟩ := mem_ready.1 hir
      have hlt : i < l.length := by have := (Array.getElem?_eq_some_iff.1 ho).1; simpa using this
      have ho' : l[i]? = some o := by simpa using ho
      have hdi : d i = false := (hd i hlt).symm.trans (getD_both' h1)
      refine wpOp_mono (fun a' w' h' => ih (listed.setIfInBounds i true) (fun j => d j || j == i) a' w' (by simp [hs]) (fun j hj => ?_) ?_ h') (hstep i o ho' d a w hdi (fun e he hb => (hd _ (by have := inOrder_edge hI ho' he hb; omega)).symm.trans (hedge e he hb)) hi)
      · by_cases hij : i = j
        · subst hij
          rw [getD_set_self (by omega)]; simp
        · rw [getD_set_ne false hij, hd j hj]
          have : (j == i) = false := beq_eq_false_iff_ne.2 (fun e => hij e.symm)
          rw [this, Bool.or_false]
      · have hlt2 : ((List.range l.length).countP fun j => !(d j || j == i)) < (List.range l.length).countP fun j => !d j := by
          refine countP_less _ (fun j _ => ?_) i (List.mem_range.2 hlt) (by simp [hdi]) (by simp)
          simp only [Bool.not_or, Bool.and_eq_true]
          exact fun h => h.1
        omega
  refine key _ _ (fun _ => false) a _ (by simp) (fun j hj => by simp [Array.getElem?_replicate, hj]) ?_ h0
  simp
end Go.Proofs.YtddnkjeogidfcaaDoor
