/-  A region whose order is open: its first n operations are quiet in a class of worlds, each of the others waits for all that stand ahead of it. One walk in the order of the text serves every order. -/
import Derived.WalkKit
import Derived.Deep.Quiet
import Derived.Deep.QuietTactic
import Derived.BigQuiet
namespace Go.Proofs.YtddnkjeogidfcaaDoor
open Go.RowKit

/-- Operation j waits for operation i. -/
def waits (ops : List Oper) (j i : Nat) : Bool := match ops[j]? with
  | some o => o.after.any fun e => Region.binds .any e && e.on == i
  | none => false

/-- Nothing waits for what comes later; no guard looks there; the operations from n on wait for all that stand ahead. -/
def tailOk (ops : List Oper) (n : Nat) : Bool :=
  decide (n < ops.length) &&
  ((List.range ops.length).all fun j => match ops[j]? with
    | some o => (o.after.all fun e => !Region.binds .any e || decide (e.on < j)) && (match o.guard with | some (g, _) => decide (g < j) | none => true)
    | none => true) &&
  ((List.range ops.length).all fun t => decide (t < n) || (List.range t).all fun i => waits ops t i)

section
variable {P : Program} {l : List Oper} {n : Nat} {C : World → Prop}

theorem tail_edge (h : tailOk l n = true) {j : Nat} {o : Oper} (hj : l[j]? = some o) {e : Edge} (he : e ∈ o.after) (hb : Region.binds .any e = true) : e.on < j := by
  simp only [tailOk, Bool.and_eq_true, List.all_eq_true, List.mem_range] at h
  have hlt := (List.getElem?_eq_some_iff.1 hj).1
  have := h.1.2 j hlt
  rw [hj] at this
  simp only [Bool.and_eq_true, Array.all_eq_true_iff_forall_mem] at this
  have h1 := this.1 e he
  rw [hb] at h1
  simpa using h1

theorem tail_guard (h : tailOk l n = true) {j : Nat} {o : Oper} (hj : l[j]? = some o) {g : Nat} {b : Bool} (hg : o.guard = some (g, b)) : g < j := by
  simp only [tailOk, Bool.and_eq_true, List.all_eq_true, List.mem_range] at h
  have hlt := (List.getElem?_eq_some_iff.1 hj).1
  have := h.1.2 j hlt
  rw [hj] at this
  simp only [Bool.and_eq_true, hg] at this
  simpa using this.2

theorem tail_wait (h : tailOk l n = true) {t i : Nat} (ht : n ≤ t) (hl : t < l.length) (hi : i < t) : ∃ o, l[t]? = some o ∧ ∃ e ∈ o.after, Region.binds .any e = true ∧ e.on = i := by
  simp only [tailOk, Bool.and_eq_true, List.all_eq_true, List.mem_range] at h
  have := h.2 t hl
  simp only [Bool.or_eq_true, decide_eq_true_eq, List.all_eq_true, List.mem_range] at this
  have hw := (this.resolve_left (by omega)) i hi
  unfold waits at hw
  split at hw
  · rename_i o ho
    obtain ⟨e, he, hb⟩ := Array.any_eq_true'.1 hw
    simp only [Bool.and_eq_true, beq_iff_eq] at hb
    exact ⟨o, ho, e, he, hb.1, hb.2⟩
  · cases hw

theorem tail_lt (h : tailOk l n = true) : n < l.length := by
  simp only [tailOk, Bool.and_eq_true] at h
  exact of_decide_eq_true h.1.1

/-- So far: below k all are listed, from k on none is. -/
def Upto (l : List Oper) (k : Nat) (listed : Array Bool) : Prop :=
  listed.size = l.length ∧ (∀ j, j < k → listed.getD j false = true) ∧ ∀ j, k ≤ j → j < l.length → listed.getD j true = false

theorem getD_both' {listed : Array Bool} {i : Nat} (h : listed.getD i true = false) : listed.getD i false = false := by
  rcases Nat.lt_or_ge i listed.size with h' | h'
  · simp [h'] at h ⊢; exact h
  · simp [Array.getElem?_eq_none h'] at h
theorem getD_true' {listed : Array Bool} {i : Nat} (h : listed.getD i false = true) : listed.getD i true = true := by
  rcases Nat.lt_or_ge i listed.size with h' | h'
  · simp [h'] at h ⊢; exact h
  · simp [Array.getElem?_eq_none h'] at h
theorem getD_set_self {listed : Array Bool} {i : Nat} (h : i < listed.size) (d : Bool) : (listed.setIfInBounds i true).getD i d = true := by simp [h]

/-- The tail, in its order. -/
theorem wpAny_tail (h : tailOk l n = true) {Q : Exit → Act → World → Prop} : ∀ (g k : Nat) (listed : Array Bool) (a : Act) (w : World), k + g = l.length → n ≤ k → Upto l k listed →
    wpList P l.toArray Q (l.drop k) a w → wpAny P .any l.toArray Q g listed a w
  | 0, k, listed, a, w, hk, _, hu, hw => by
    have hd : l.drop k = [] := List.drop_eq_nil_of_le (by omega)
    rw [hd] at hw
    refine ⟨?_, hw⟩
    refine List.eq_nil_iff_forall_not_mem.2 fun j hj => ?_
    obtain ⟨h0, o, ho, _⟩ := mem_ready.1 hj
    have hlt : j < l.length := by
      have := (Array.getElem?_eq_some_iff.1 ho).1
      simpa using this
    have := getD_true' (hu.2.1 j (by omega))
    rw [this] at h0; cases h0
  | g + 1, k, listed, a, w, hk, hn, hu, hw => by
    have hlt : k < l.length := by omega
    have hdrop : l.drop k = l[k] :: l.drop (k + 1) := List.drop_eq_getElem_cons hlt
    have hok : l[k]? = some l[k] := List.getElem?_eq_getElem hlt
    have hready : k ∈ Region.ready .any l.toArray listed :=
      mem_ready.2 ⟨hu.2.2 k (Nat.le_refl _) hlt, l[k], by simp, fun e he hb => hu.2.1 _ (tail_edge h hok he hb)⟩
    refine ⟨fun h0 => (by rw [h0] at hready; cases hready), fun i hi => ?_⟩
    obtain ⟨hun, o, ho, hall⟩ := mem_ready.1 hi
    have hil : i < l.length := by
      have := (Array.getElem?_eq_some_iff.1 ho).1
      simpa using this
    have hik : i = k := by
      rcases Nat.lt_trichotomy i k with h1 | h1 | h1
      · have := getD_true' (hu.2.1 i h1)
        rw [this] at hun; cases hun
      · exact h1
      · obtain ⟨o', ho', e, he, hb, hon⟩ := tail_wait h (by omega) hil h1
        have : o' = o := by
          have h2 : l[i]? = some o := by simpa using ho
          exact Option.some.inj (ho'.symm.trans h2)
        subst this
        have h2 := hall e he hb
        rw [hon, getD_both' (hu.2.2 k (Nat.le_refl _) hlt)] at h2
        cases h2
    subst hik
    rw [hdrop] at hw
    have hw2 : wpOp P l.toArray Q i (wpList P l.toArray Q (l.drop (i + 1))) a w := by
      unfold wpOp
      simp only [List.getElem?_toArray, hok]
      exact hw
    refine wpOp_mono (fun a' w' h' => wpAny_tail h g (i + 1) _ a' w' (by omega) (by omega) ⟨by simp [hu.1], fun j hj => ?_, fun j hj hj2 => ?_⟩ h') hw2
    · rcases Nat.lt_succ_iff_lt_or_eq.1 hj with h1 | rfl
      · exact getD_set_true (hu.2.1 j h1)
      · exact getD_set_self (by rw [hu.1]; exact hlt) _
    · rw [getD_set_ne true (by omega)]; exact hu.2.2 j (by omega) hj2

/-- The head, in whatever order. L: what is listed of the head alone. -/
theorem wpAny_head (h : tailOk l n = true) {Q : Exit → Act → World → Prop} {Qa : Act → Prop} (hQ : ∀ a w, C w → Qa a → wpList P l.toArray Q (l.drop n) a w) :
    ∀ (f : Nat) (L listed : Array Bool) (a : Act) (w : World), C w → listed.size = l.length → L.size = n → (∀ j, j < n → ∀ d, listed.getD j d = L.getD j d) → (∀ j, n ≤ j → j < l.length → listed.getD j true = false) →
      wpAnyQ P .any (l.take n).toArray C Qa f L a → wpAny P .any l.toArray Q (f + (l.length - n)) listed a w := by
  have hn := tail_lt h
  have hget : ∀ j, j < n → (l.take n).toArray[j]? = l[j]? := fun j hj => by simp [hj]
  -- what is ready in the head is ready in the whole
  have hsame : ∀ (L listed : Array Bool), (∀ j, j < n → ∀ d, listed.getD j d = L.getD j d) → ∀ j, j < n → (j ∈ Region.ready .any l.toArray listed ↔ j ∈ Region.ready .any (l.take n).toArray L) := by
    intro L listed hag j hj
    rw [mem_ready, mem_ready, hget j hj, hag j hj]
    simp only [List.getElem?_toArray]
    constructor
    · rintro ⟨h0, o, ho, hall⟩
      exact ⟨h0, o, ho, fun e he hb => by rw [← hag _ (by have := tail_edge h ho he hb; omega)]; exact hall e he hb⟩
    · rintro ⟨h0, o, ho, hall⟩
      exact ⟨h0, o, ho, fun e he hb => by rw [hag _ (by have := tail_edge h ho he hb; omega)]; exact hall e he hb⟩
  -- nothing of the head is ready: all of it is listed
  have hfull : ∀ (L : Array Bool), L.size = n → Region.ready .any (l.take n).toArray L = [] → ∀ j, j < n → L.getD j false = true := by
    intro L hL h0 j
    induction j using Nat.strongRecOn with
    | _ j ih =>
      intro hj
      cases hb : L.getD j false with
      | true => rfl
      | false =>
        have hjl : j < L.size := by omega
        have hun : L.getD j true = false := by simp [hjl] at hb ⊢; exact hb
        have : j ∈ Region.ready .any (l.take n).toArray L :=
          mem_ready.2 ⟨hun, l[j]'(by omega), by rw [hget j hj]; exact List.getElem?_eq_getElem (by omega), fun e he hb =>
            ih _ (tail_edge h (List.getElem?_eq_getElem (by omega)) he hb) (by have := tail_edge h (List.getElem?_eq_getElem (by omega)) he hb; omega)⟩
        rw [h0] at this; cases this
  -- what stands in the tail is ready only behind the whole head
  have htail : ∀ (L listed : Array Bool), (∀ j, j < n → ∀ d, listed.getD j d = L.getD j d) → ∀ t, n ≤ t → t ∈ Region.ready .any l.toArray listed → ∀ i, i < n → L.getD i false = true := by
    intro L listed hag t ht hr i hi
    obtain ⟨_, o, ho, hall⟩ := mem_ready.1 hr
    have hlt : t < l.length := by
      have := (Array.getElem?_eq_some_iff.1 ho).1
      simpa using this
    obtain ⟨o', ho', e, he, hb, hon⟩ := tail_wait h ht hlt (i := i) (by omega)
    have : o' = o := by
      have h2 : l[t]? = some o := by simpa using ho
      exact Option.some.inj (ho'.symm.trans h2)
    subst this
    have h2 := hall e he hb
    rw [hon, hag i hi] at h2
    exact h2
  have hend : ∀ (L listed : Array Bool) (a : Act) (w : World), C w → listed.size = l.length → (∀ j, j < n → ∀ d, listed.getD j d = L.getD j d) → (∀ j, n ≤ j → j < l.length → listed.getD j true = false) →
      (∀ j, j < n → L.getD j false = true) → Qa a → wpAny P .any l.toArray Q (l.length - n) listed a w := fun L listed a w hC hs hag ht hfl hq =>
    wpAny_tail h (l.length - n) n listed a w (by omega) (Nat.le_refl _) ⟨hs, fun j hj => by rw [hag j hj]; exact hfl j hj, ht⟩ (hQ a w hC hq)
  intro f
  induction f with
  | zero =>
    intro L listed a w hC hs hL hag ht hw
    rw [Nat.zero_add]
    exact hend L listed a w hC hs hag ht (hfull L hL hw.1) hw.2
  | succ f ih =>
    intro L listed a w hC hs hL hag ht hw
    obtain ⟨hw0, hw1⟩ := hw
    by_cases hr : Region.ready .any (l.take n).toArray L = []
    · -- the head is over though rounds are left
      have h2 := hend L listed a w hC hs hag ht (hfull L hL hr) (hw0 hr)
      have : ∀ (g k : Nat) (listed : Array Bool) (a : Act) (w : World), wpAny P .any l.toArray Q g listed a w → wpAny P .any l.toArray Q (g + k) listed a w := by
        intro g k
        induction g with
        | zero =>
          intro listed a w hh
          cases k with
          | zero => exact hh
          | succ k => exact ⟨fun _ => hh.2, fun i hi => by rw [hh.1] at hi; cases hi⟩
        | succ g ihg =>
          intro listed a w hh
          rw [show g + 1 + k = (g + k) + 1 by omega]
          exact ⟨hh.1, fun i hi => wpOp_mono (fun a' w' h' => ihg _ a' w' h') (hh.2 i hi)⟩
      rw [Nat.add_comm (f + 1)]
      exact this _ _ _ _ _ h2
    · rw [show f + 1 + (l.length - n) = (f + (l.length - n)) + 1 by omega]
      have hhead : ∀ i, i ∈ Region.ready .any l.toArray listed → i < n := by
        intro i hi
        rcases Nat.lt_or_ge i n with h1 | h1
        · exact h1
        · exfalso
          have hall := htail L listed hag i h1 hi
          refine hr (List.eq_nil_iff_forall_not_mem.2 fun j hj => ?_)
          obtain ⟨h0, o, ho, _⟩ := mem_ready.1 hj
          have hjn : j < n := by
            have := (Array.getElem?_eq_some_iff.1 ho).1
            simp at this; omega
          have := getD_true' (hall j hjn)
          rw [this] at h0; cases h0
      refine ⟨fun h0 => ?_, fun i hi => ?_⟩
      · exfalso
        refine hr (List.eq_nil_iff_forall_not_mem.2 fun j hj => ?_)
        have hjn : j < n := by
          obtain ⟨_, o, ho, _⟩ := mem_ready.1 hj
          have := (Array.getElem?_eq_some_iff.1 ho).1
          simp at this; omega
        have := (hsame L listed hag j hjn).2 hj
        rw [h0] at this; cases this
      · have hin := hhead i hi
        have hq := hw1 i ((hsame L listed hag i hin).1 hi)
        have hq2 : qOp P l.toArray C i (wpAnyQ P .any (l.take n).toArray C Qa f (L.setIfInBounds i true)) a := by
          unfold qOp at hq ⊢
          rw [hget i hin] at hq
          simp only [List.getElem?_toArray]
          cases ho : l[i]? with
          | none => simp only [ho] at hq; exact hq
          | some o =>
            simp only [ho] at hq ⊢
            have hy : Region.wanted o (yielded l.toArray a.tmps) = Region.wanted o (yielded (l.take n).toArray a.tmps) := by
              unfold Region.wanted
              cases hg : o.guard with
              | none => rfl
              | some p =>
                obtain ⟨g, b⟩ := p
                have hgn := tail_guard h ho hg
                unfold yielded
                simp only [List.getElem?_toArray]
                rw [List.getElem?_take_of_lt (by omega)]
            rw [hy]; exact hq
        refine wpOp_of_qOp hC (fun a' w' hw' h' => ih (L.setIfInBounds i true) (listed.setIfInBounds i true) a' w' hw' (by simp [hs]) (by simp [hL]) (fun j hj d => ?_) (fun j hj hj2 => ?_) h') hq2
        · by_cases hij : i = j
          · subst hij
            rw [getD_set_self (by omega), getD_set_self (by omega)]
          · rw [getD_set_ne d hij, getD_set_ne d hij]; exact hag j hj d
        · rw [getD_set_ne true (by omega)]; exact ht j hj hj2

/-- THE LAW. -/
theorem wp_region_quiet_tail {id : Nat} {Q : Exit → Act → World → Prop} {a : Act} {w : World} (n : Nat) (C : World → Prop) (hm : P.follows .mixedOrders = true)
    (hB : Region.lexB .any (l.take n).toArray = true) (hT : tailOk l n = true) (hC : C { w with drawn := w.drawn + 1 })
    (h : wpQuiet P (l.take n).toArray C (fun a' => ∀ w', C w' → wpList P l.toArray Q (l.drop n) a' w') (l.take n) a) : (Code.region id l.toArray true).wp P Q a w := by
  have hn := tail_lt hT
  refine wp_region_any hm ?_
  simp only [Region.lexB, Bool.and_eq_true] at hB
  have h1 := wpAnyQ_lex (C := C) (md := .any) hB.1 (l.take n) 0 (Array.replicate (l.take n).toArray.size false) a (by simp) (by simpa using hB.2) (by simpa using h)
  have h2 := wpAny_head hT (Q := Q) (C := C) (Qa := fun a' => ∀ w', C w' → wpList P l.toArray Q (l.drop n) a' w') (fun a w hc hq => hq w hc) (l.take n).length (Array.replicate (l.take n).toArray.size false)
    (Array.replicate l.toArray.size false) a { w with drawn := w.drawn + 1 } hC (by simp) (by simp; omega) (fun j hj d => by simp [Array.getElem?_replicate]; rw [if_pos (by omega), if_pos (by omega)])
    (fun j _ hj => by simp [hj]) h1
  have e : (l.take n).length + (l.length - n) = l.toArray.size := by simp; omega
  rwa [e] at h2
end

/-- A world in which all that lay in w lies unturned. -/
def LaterOf (w : World) : Type := { W : World // Below w.heap.size w W }
instance (w : World) : Nonempty (LaterOf w) := ⟨⟨w, Below.refl _ _⟩⟩
def laterW (w : World) (u : LaterOf w) : World := u.1
theorem laterW_below (w : World) (u : LaterOf w) : Below w.heap.size w (laterW w u) := u.2
@[go_sem] theorem cell_laterW (w : World) (u : LaterOf w) (b o : Nat) (h : b < w.heap.size) : (laterW w u).cell? ⟨b, o, none⟩ = w.cell? ⟨b, o, none⟩ := u.2.cell (p := ⟨b, o, none⟩) h
@[go_sem] theorem frozen_laterW (w : World) (u : LaterOf w) (b o : Nat) (h : b < w.heap.size) : (laterW w u).frozen? ⟨b, o, none⟩ = w.frozen? ⟨b, o, none⟩ := u.2.frozen (p := ⟨b, o, none⟩) h

theorem drawn_later (w : World) : ∃ u, ({ w with drawn := w.drawn + 1 } : World) = laterW w u := ⟨⟨{ w with drawn := w.drawn + 1 }, ⟨rfl, rfl, rfl, Nat.le_refl _, fun _ _ => rfl⟩⟩, rfl⟩

/-- A callee's contract, met in such a world. -/
theorem Calls.quiet_later {P : Program} {f : FuncId} {args : Array Value} {w : World} {u : LaterOf w} {v : Value} {R : Ending → World → Prop}
    (h : Calls P f args (laterW w u) R) (hR : ∀ e W, R e W → e = .returned v ∧ Below (laterW w u).heap.size (laterW w u) W) : Calls P f args (laterW w u) fun e W => e = .returned v ∧ ∃ u', W = laterW w u' :=
  h.mono fun e W hr => by
    obtain ⟨he, hb⟩ := hR e W hr
    exact ⟨he, ⟨W, u.2.trans (hb.mono u.2.size)⟩, rfl⟩

/-- The law at that class. -/
theorem wp_region_later_tail {P : Program} {l : List Oper} {id : Nat} {Q : Exit → Act → World → Prop} {a : Act} {w : World} (n : Nat) (hm : P.follows .mixedOrders = true)
    (hB : Region.lexB .any (l.take n).toArray = true) (hT : tailOk l n = true)
    (h : wpQuiet P (l.take n).toArray (fun W => ∃ u, W = laterW w u) (fun a' => ∀ w', (∃ u, w' = laterW w u) → wpList P l.toArray Q (l.drop n) a' w') (l.take n) a) : (Code.region id l.toArray true).wp P Q a w :=
  wp_region_quiet_tail n (fun W => ∃ u, W = laterW w u) hm hB hT (drawn_later w) h

theorem wp_region_later {P : Program} {l : List Oper} {id : Nat} {Q : Exit → Act → World → Prop} {a : Act} {w : World} (hm : P.follows .mixedOrders = true)
    (hB : Region.lexB .any l.toArray = true)
    (h : wpQuiet P l.toArray (fun W => ∃ u, W = laterW w u) (fun a' => ∀ w', (∃ u, w' = laterW w u) → Q .normal a' w') l a) : (Code.region id l.toArray true).wp P Q a w :=
  wp_region_quiet (C := fun W => ∃ u, W = laterW w u) hm hB (drawn_later w) (by simpa using h)
theorem belowN {B : Nat} {a w : World} (h : Below B a w) (n : Nat) : Below B a (w.drewN n) := ⟨h.os, h.tape, h.output, h.size, h.block⟩
theorem cell_drewN {w : World} {n : Nat} {a : Addr} {v : Value} (h : w.cell? a = some v) : (w.drewN n).cell? a = some v := h
end Go.Proofs.YtddnkjeogidfcaaDoor
