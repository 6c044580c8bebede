/-  The any-order law, by the slots that a region fills. -/
import Derived.Test.YtddnkjeogidfcaaDoorInv
namespace Go.Proofs.YtddnkjeogidfcaaDoor
open Go.RowKit
variable {P : Program} {l : List Oper}

def fillT (t : Array Value) : List Nat → List Value → Array Value
  | i :: ts, x :: xs => fillT (t.setIfInBounds i x) ts xs
  | _, _ => t
def fillA (a : Act) (ts : List Nat) (xs : List Value) : Act := { a with tmps := fillT a.tmps ts xs }

theorem wp_region_slots {id : Nat} {Q : Exit → Act → World → Prop} {a : Act} {w : World} (ts : List Nat) (J : (Nat → Bool) → List Value → World → Prop) (hm : P.follows .mixedOrders = true) (hI : inOrder l = true)
    (x0 : List Value) (hx : fillA a ts x0 = a) (h0 : J (fun _ => false) x0 { w with drawn := w.drawn + 1 })
    (hstep : ∀ (i : Nat) (o : Oper), l[i]? = some o → ∀ (d : Nat → Bool) (xs : List Value) (W : World), d i = false → (∀ e ∈ o.after, Region.binds .any e = true → d e.on = true) → J d xs W →
      wpOp P l.toArray Q i (fun a' w' => ∃ xs', a' = fillA a ts xs' ∧ J (fun j => d j || j == i) xs' w') (fillA a ts xs) W)
    (hend : ∀ (d : Nat → Bool) (xs : List Value) (W : World), (∀ j, j < l.length → d j = true) → J d xs W → Q .normal (fillA a ts xs) W) : (Code.region id l.toArray true).wp P Q a w :=
  wp_region_inv (fun d a' W => ∃ xs, a' = fillA a ts xs ∧ J d xs W) hm hI ⟨x0, hx.symm, h0⟩
    (fun i o ho d a' W hd he ⟨xs, ha, hj⟩ => by subst ha; exact hstep i o ho d xs W hd he hj)
    (fun d a' W hd ⟨xs, ha, hj⟩ => by subst ha; exact hend d xs W hd hj)

theorem inOrder_guard (h : inOrder l = true) {j : Nat} {o : Oper} (hj : l[j]? = some o) : o.guard = none := by
  simp only [inOrder, List.all_eq_true, List.mem_range] at h
  have hlt := (List.getElem?_eq_some_iff.1 hj).1
  have := h j hlt
  rw [hj] at this
  simp only [Bool.and_eq_true, Option.isNone_iff_eq_none] at this
  exact this.2
def stepsAll (G : Nat → Oper → Prop) : Nat → List Oper → Prop
  | _, [] => True
  | k, o :: l => G k o ∧ stepsAll G (k + 1) l
theorem stepsAll_get {G : Nat → Oper → Prop} : ∀ (l : List Oper) (k : Nat), stepsAll G k l → ∀ (i : Nat) (o : Oper), l[i]? = some o → G (k + i) o
  | [], _, _, i, o, h => by simp at h
  | o0 :: l, k, hs, 0, o, h => by cases h; exact hs.1
  | o0 :: l, k, hs, i + 1, o, h => by
    have := stepsAll_get l (k + 1) hs.2 i o h
    rwa [show k + 1 + i = k + (i + 1) by omega] at this

/-- Behind the one operation K, else Q. -/
def onlyK (K : Act → World → Prop) (Q : Exit → Act → World → Prop) : Exit → Act → World → Prop
  | .normal, a, w => K a w
  | .outgrown, a, w => Q .outgrown a w
  | .exit k, a, w => Q (.exit k) a w
  | .ret, a, w => Q .ret a w
  | .goto k, a, w => Q (.goto k) a w
  | .panic c, a, w => Q (.panic c) a w

theorem onlyK_normal {K : Act → World → Prop} {Q : Exit → Act → World → Prop} {a : Act} {w : World} (h : K a w) : onlyK K Q .normal a w := h

theorem wpOp_of_list {ops : Array Oper} {Q : Exit → Act → World → Prop} {K : Act → World → Prop} {i : Nat} {o : Oper} {a : Act} {w : World} (ho : ops[i]? = some o) (hg : o.guard = none) (h : wpList P ops (onlyK K Q) [o] a w) : wpOp P ops Q i K a w := by
  have hw : Region.wanted o (yielded ops a.tmps) = true := by simp [Region.wanted, hg]
  unfold wpList at h
  rw [if_pos hw] at h
  unfold wpOp
  simp only [ho]
  rw [if_pos hw]
  have hlet : LetsOut (onlyK K Q) → LetsOut Q := fun ⟨a, w, h⟩ => ⟨a, w, h⟩
  rcases h with h | ⟨h, hl⟩
  · left
    unfold Oper.wp at *
    generalize (execOp a.eval o).run P w = r at *
    cases r with
    | ok n w' =>
      cases n <;> simp only [Oper.upon] at h ⊢ <;> first | exact h | (refine h.mono fun e w'' hh => ?_; cases e <;> first | exact hh | exact hlet hh)
    | halt x w' => cases x <;> simp only [Oper.upon] at h ⊢ <;> exact h
  · exact .inr ⟨h, hlet hl⟩

theorem wp_region_steps {id : Nat} {Q : Exit → Act → World → Prop} {a : Act} {w : World} (ts : List Nat) (J : (Nat → Bool) → List Value → World → Prop) (hm : P.follows .mixedOrders = true) (hI : inOrder l = true)
    (x0 : List Value) (hx : fillA a ts x0 = a) (h0 : J (fun _ => false) x0 { w with drawn := w.drawn + 1 })
    (hstep : stepsAll (fun i o => ∀ (d : Nat → Bool) (xs : List Value) (W : World), d i = false → (∀ e ∈ o.after, Region.binds .any e = true → d e.on = true) → J d xs W →
      wpList P l.toArray (onlyK (fun a' w' => ∃ xs', a' = fillA a ts xs' ∧ J (fun j => d j || j == i) xs' w') Q) [o] (fillA a ts xs) W) 0 l)
    (hend : ∀ (d : Nat → Bool) (xs : List Value) (W : World), (∀ j, j < l.length → d j = true) → J d xs W → Q .normal (fillA a ts xs) W) : (Code.region id l.toArray true).wp P Q a w :=
  wp_region_slots ts J hm hI x0 hx h0 (fun i o ho d xs W hd he hj => by
    have := stepsAll_get l 0 hstep i o ho
    rw [Nat.zero_add] at this
    exact wpOp_of_list (by simpa using ho) (inOrder_guard hI ho) (this d xs W hd he hj)) hend

theorem list11 {xs : List Value} (h : xs.length = 11) : ∃ x0 x1 x2 x3 x4 x5 x6 x7 x8 x9 x10, xs = [x0, x1, x2, x3, x4, x5, x6, x7, x8, x9, x10] := by
  match xs, h with
  | [x0, x1, x2, x3, x4, x5, x6, x7, x8, x9, x10], _ => exact ⟨_, _, _, _, _, _, _, _, _, _, _, rfl⟩
theorem list12 {xs : List Value} (h : xs.length = 12) : ∃ x0 x1 x2 x3 x4 x5 x6 x7 x8 x9 x10 x11, xs = [x0, x1, x2, x3, x4, x5, x6, x7, x8, x9, x10, x11] := by
  match xs, h with
  | [x0, x1, x2, x3, x4, x5, x6, x7, x8, x9, x10, x11], _ => exact ⟨_, _, _, _, _, _, _, _, _, _, _, _, rfl⟩
end Go.Proofs.YtddnkjeogidfcaaDoor
