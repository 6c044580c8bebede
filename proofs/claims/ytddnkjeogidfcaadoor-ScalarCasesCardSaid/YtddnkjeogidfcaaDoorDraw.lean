/-  A region 'x, e := f(l...)' that draws its order: quiet operations, a slice of values, the call, two extracts, a block, a store. What is done so far, and what it gave. -/
import Derived.Test.YtddnkjeogidfcaaDoorInvS
import Derived.Test.YtddnkjeogidfcaaDoorVS
namespace Go.Proofs.YtddnkjeogidfcaaDoor
open Go.RowKit

structure Draw (n : Nat) (qs : List Value) (l : List GV) (r : GV) (e : Int) (W0 : World) (d : Nat → Bool) (xs : List Value) (W : World) : Prop where
  len : xs.length = n + 7
  below : Below W0.heap.size W0 W
  head : ∀ j, j < n → d j = true → xs[j]? = qs[j]?
  sl : d n = true → d (n + 6) = false → ∃ s, xs[n]? = some s ∧ VS W s l
  call : d (n + 1) = true → xs[n + 1]? = some (.tuple #[r.val, .int .i64 e])
  mv : d (n + 2) = true → xs[n + 2]? = some (.tuple #[r.val, .int .i64 e])
  ex0 : d (n + 3) = true → xs[n + 3]? = some r.val
  ex1 : d (n + 4) = true → xs[n + 4]? = some (.int .i64 e)
  al : d (n + 5) = true → ∃ b, xs[n + 5]? = some (.pointer (some ⟨b, 0, none⟩)) ∧ W0.heap.size ≤ b ∧ W.cell? ⟨b, 0, none⟩ = some (.int .i64 (if d (n + 6) then r.k else 0)) ∧ W.cell? ⟨b, 1, none⟩ = some (.int .i64 (if d (n + 6) then r.i else 0)) ∧
    W.cell? ⟨b, 2, none⟩ = some (.string (if d (n + 6) then r.s else ⟨#[]⟩)) ∧ ∀ o, W.frozen? ⟨b, o, none⟩ = false
  asg : d (n + 7) = true → xs[n + 6]? = some (.int .i64 e)
  ord : d (n + 6) = true → d (n + 5) = true ∧ d (n + 1) = true

variable {n : Nat} {qs : List Value} {l : List GV} {r : GV} {e : Int} {W0 W W' : World} {d : Nat → Bool} {xs : List Value}

theorem upd_ne {d : Nat → Bool} {i j : Nat} (h : j ≠ i) (hd : (fun j => d j || j == i) j = true) : d j = true := by
  have : (j == i) = false := beq_eq_false_iff_ne.2 h
  simp only [this, Bool.or_false] at hd; exact hd
theorem upd_ne' {d : Nat → Bool} {i j : Nat} (h : j ≠ i) : (fun j => d j || j == i) j = d j := by
  have : (j == i) = false := beq_eq_false_iff_ne.2 h
  simp only [this, Bool.or_false]

/-- Nothing is done. -/
theorem Draw.start (h : xs.length = n + 7) : Draw n qs l r e W0 (fun _ => false) xs { W0 with drawn := W0.drawn + 1 } where
  len := h
  below := ⟨rfl, rfl, rfl, Nat.le_refl _, fun _ _ => rfl⟩
  head := fun _ _ a => by cases a
  sl := fun a => by cases a
  call := fun a => by cases a
  mv := fun a => by cases a
  ex0 := fun a => by cases a
  ex1 := fun a => by cases a
  al := fun a => by cases a
  asg := fun a => by cases a
  ord := fun a => by cases a

/-- A later world, with nothing new done. -/
theorem Draw.later (h : Draw n qs l r e W0 d xs W) (hb : Below W.heap.size W W') : Draw n qs l r e W0 d xs W' where
  len := h.len
  below := Go.Proofs.YtddnkjeogidfcaaDoor.later h.below hb
  head := h.head
  sl := fun a b => let ⟨s, h1, h2⟩ := h.sl a b; ⟨s, h1, h2.below hb⟩
  call := h.call
  mv := h.mv
  ex0 := h.ex0
  ex1 := h.ex1
  al := fun a => by
    obtain ⟨b, h1, h2, c0, c1, c2, hf⟩ := h.al a
    exact ⟨b, h1, h2, cell_below hb c0, cell_below hb c1, cell_below hb c2, fun o => by rw [(bcell hb).2 _ _ (lt_of_cell c0)]; exact hf o⟩
  asg := h.asg
  ord := h.ord

/-- One operation done, other than the slice, the block and the store: its slot p is filled. -/
theorem Draw.fill (h : Draw n qs l r e W0 d xs W) (i p : Nat) (v : Value) (hp : p < n + 7) (hi : (i < n ∧ p = i ∧ qs[i]? = some v) ∨ (i = n + 1 ∧ p = n + 1 ∧ v = .tuple #[r.val, .int .i64 e]) ∨ (i = n + 2 ∧ p = n + 2 ∧ v = .tuple #[r.val, .int .i64 e]) ∨
    (i = n + 3 ∧ p = n + 3 ∧ v = r.val) ∨ (i = n + 4 ∧ p = n + 4 ∧ v = .int .i64 e) ∨ (i = n + 7 ∧ p = n + 6 ∧ v = .int .i64 e)) : Draw n qs l r e W0 (fun j => d j || j == i) (xs.set p v) W := by
  have hl := h.len
  have hset : ∀ j, j ≠ p → (xs.set p v)[j]? = xs[j]? := fun j hj => List.getElem?_set_ne (fun e => hj e.symm)
  have hself : (xs.set p v)[p]? = some v := by rw [List.getElem?_set_self (by omega)]
  have hne6 : n + 6 ≠ i := by rcases hi with ⟨g1, g2, g3⟩ | ⟨g1, g2, g3⟩ | ⟨g1, g2, g3⟩ | ⟨g1, g2, g3⟩ | ⟨g1, g2, g3⟩ | ⟨g1, g2, g3⟩ <;> omega
  have hpi : p = i ∨ p = n + 6 ∧ i = n + 7 := by rcases hi with ⟨g1, g2, g3⟩ | ⟨g1, g2, g3⟩ | ⟨g1, g2, g3⟩ | ⟨g1, g2, g3⟩ | ⟨g1, g2, g3⟩ | ⟨g1, g2, g3⟩ <;> omega
  have hni : i ≠ n ∧ i ≠ n + 5 := by rcases hi with ⟨g1, g2, g3⟩ | ⟨g1, g2, g3⟩ | ⟨g1, g2, g3⟩ | ⟨g1, g2, g3⟩ | ⟨g1, g2, g3⟩ | ⟨g1, g2, g3⟩ <;> omega
  have h6 : (d (n + 6) || n + 6 == i) = d (n + 6) := upd_ne' hne6
  refine ⟨by rw [List.length_set]; exact hl, h.below, fun j hj hd => ?_, fun a b => ?_, fun a => ?_, fun a => ?_, fun a => ?_, fun a => ?_, fun a => ?_, fun a => ?_, fun a => by
    rw [h6] at a
    obtain ⟨g1, g2⟩ := h.ord a
    exact ⟨by simp only [g1, Bool.true_or], by simp only [g2, Bool.true_or]⟩⟩
  · by_cases hij : j = i
    · subst hij
      have : p = j ∧ qs[j]? = some v := by rcases hi with ⟨g1, g2, g3⟩ | ⟨g1, g2, g3⟩ | ⟨g1, g2, g3⟩ | ⟨g1, g2, g3⟩ | ⟨g1, g2, g3⟩ | ⟨g1, g2, g3⟩ <;> first | exact ⟨g2, g3⟩ | (exfalso; omega)
      obtain ⟨rfl, hq⟩ := this
      rw [hself, hq]
    · rw [hset j (by omega)]
      exact h.head j hj (upd_ne hij hd)
  · rw [h6] at b
    obtain ⟨s, h1, h2⟩ := h.sl (upd_ne (by omega) a) b
    exact ⟨s, by rw [hset _ (by omega)]; exact h1, h2⟩
  · by_cases hij : n + 1 = i
    · have : p = n + 1 ∧ v = .tuple #[r.val, .int .i64 e] := by rcases hi with ⟨g1, g2, g3⟩ | ⟨g1, g2, g3⟩ | ⟨g1, g2, g3⟩ | ⟨g1, g2, g3⟩ | ⟨g1, g2, g3⟩ | ⟨g1, g2, g3⟩ <;> first | exact ⟨g2, g3⟩ | (exfalso; omega)
      obtain ⟨rfl, rfl⟩ := this
      exact hself
    · rw [hset _ (by omega)]; exact h.call (upd_ne hij a)
  · by_cases hij : n + 2 = i
    · have : p = n + 2 ∧ v = .tuple #[r.val, .int .i64 e] := by rcases hi with ⟨g1, g2, g3⟩ | ⟨g1, g2, g3⟩ | ⟨g1, g2, g3⟩ | ⟨g1, g2, g3⟩ | ⟨g1, g2, g3⟩ | ⟨g1, g2, g3⟩ <;> first | exact ⟨g2, g3⟩ | (exfalso; omega)
      obtain ⟨rfl, rfl⟩ := this
      exact hself
    · rw [hset _ (by omega)]; exact h.mv (upd_ne hij a)
  · by_cases hij : n + 3 = i
    · have : p = n + 3 ∧ v = r.val := by rcases hi with ⟨g1, g2, g3⟩ | ⟨g1, g2, g3⟩ | ⟨g1, g2, g3⟩ | ⟨g1, g2, g3⟩ | ⟨g1, g2, g3⟩ | ⟨g1, g2, g3⟩ <;> first | exact ⟨g2, g3⟩ | (exfalso; omega)
      obtain ⟨rfl, rfl⟩ := this
      exact hself
    · rw [hset _ (by omega)]; exact h.ex0 (upd_ne hij a)
  · by_cases hij : n + 4 = i
    · have : p = n + 4 ∧ v = .int .i64 e := by rcases hi with ⟨g1, g2, g3⟩ | ⟨g1, g2, g3⟩ | ⟨g1, g2, g3⟩ | ⟨g1, g2, g3⟩ | ⟨g1, g2, g3⟩ | ⟨g1, g2, g3⟩ <;> first | exact ⟨g2, g3⟩ | (exfalso; omega)
      obtain ⟨rfl, rfl⟩ := this
      exact hself
    · rw [hset _ (by omega)]; exact h.ex1 (upd_ne hij a)
  · obtain ⟨b, h1, h2⟩ := h.al (upd_ne (by omega) a)
    simp only [h6]
    exact ⟨b, by rw [hset _ (by omega)]; exact h1, h2⟩
  · by_cases hij : n + 7 = i
    · have : p = n + 6 ∧ v = .int .i64 e := by rcases hi with ⟨g1, g2, g3⟩ | ⟨g1, g2, g3⟩ | ⟨g1, g2, g3⟩ | ⟨g1, g2, g3⟩ | ⟨g1, g2, g3⟩ | ⟨g1, g2, g3⟩ <;> first | exact ⟨g2, g3⟩ | (exfalso; omega)
      obtain ⟨rfl, rfl⟩ := this
      exact hself
    · rw [hset _ (by omega)]; exact h.asg (upd_ne hij a)

/-- The slice is made. -/
theorem Draw.slice (h : Draw n qs l r e W0 d xs W) (s : Value) (hb : Below W.heap.size W W') (hs : VS W' s l) : Draw n qs l r e W0 (fun j => d j || j == n) (xs.set n s) W' := by
  have h' := h.later hb
  have hl := h.len
  have hset : ∀ j, j ≠ n → (xs.set n s)[j]? = xs[j]? := fun j hj => List.getElem?_set_ne (fun e => hj e.symm)
  have hself : (xs.set n s)[n]? = some s := by rw [List.getElem?_set_self (by omega)]
  have h6 : (d (n + 6) || n + 6 == n) = d (n + 6) := upd_ne' (by omega)
  refine ⟨by rw [List.length_set]; exact hl, h'.below, fun j hj hd => ?_, fun _ _ => ⟨s, hself, hs⟩, fun a => ?_, fun a => ?_, fun a => ?_, fun a => ?_, fun a => ?_, fun a => ?_, fun a => by
    rw [h6] at a
    obtain ⟨g1, g2⟩ := h.ord a
    exact ⟨by simp only [g1, Bool.true_or], by simp only [g2, Bool.true_or]⟩⟩
  · rw [hset j (by omega)]; exact h.head j hj (upd_ne (by omega) hd)
  · rw [hset _ (by omega)]; exact h.call (upd_ne (by omega) a)
  · rw [hset _ (by omega)]; exact h.mv (upd_ne (by omega) a)
  · rw [hset _ (by omega)]; exact h.ex0 (upd_ne (by omega) a)
  · rw [hset _ (by omega)]; exact h.ex1 (upd_ne (by omega) a)
  · obtain ⟨b, h1, h2⟩ := h'.al (upd_ne (by omega) a)
    simp only [h6]
    exact ⟨b, by rw [hset _ (by omega)]; exact h1, h2⟩
  · rw [hset _ (by omega)]; exact h.asg (upd_ne (by omega) a)

/-- The block is made. -/
theorem Draw.block (h : Draw n qs l r e W0 d xs W) (hd : d (n + 5) = false) (t : Nat) : Draw n qs l r e W0 (fun j => d j || j == n + 5) (xs.set (n + 5) (.pointer (some ⟨W.heap.size, 0, none⟩))) (W.alloc (.cells #[.int .i64 0, .int .i64 0, .string ⟨#[]⟩] t)) := by
  have h' := h.later ((Below.refl W.heap.size W).alloc (Nat.le_refl _) (.cells #[.int .i64 0, .int .i64 0, .string ⟨#[]⟩] t))
  have hl := h.len
  have hset : ∀ j, j ≠ n + 5 → (xs.set (n + 5) (.pointer (some ⟨W.heap.size, 0, none⟩)))[j]? = xs[j]? := fun j hj => List.getElem?_set_ne (fun e => hj e.symm)
  have hself : (xs.set (n + 5) (.pointer (some ⟨W.heap.size, 0, none⟩)))[n + 5]? = some (.pointer (some ⟨W.heap.size, 0, none⟩)) := by rw [List.getElem?_set_self (by omega)]
  have h6 : (d (n + 6) || n + 6 == n + 5) = d (n + 6) := upd_ne' (by omega)
  have hd6 : d (n + 6) = false := by
    cases hc : d (n + 6) with
    | false => rfl
    | true => rw [(h.ord hc).1] at hd; cases hd
  refine ⟨by rw [List.length_set]; exact hl, h'.below, fun j hj hd => ?_, fun a b => ?_, fun a => ?_, fun a => ?_, fun a => ?_, fun a => ?_, fun _ => ⟨W.heap.size, hself, h.below.size, ?_, ?_, ?_, fun o => ?_⟩, fun a => ?_, fun a => by rw [h6, hd6] at a; cases a⟩
  · rw [hset j (by omega)]; exact h.head j hj (upd_ne (by omega) hd)
  · rw [h6] at b
    obtain ⟨s, h1, h2⟩ := h'.sl (upd_ne (by omega) a) b
    exact ⟨s, by rw [hset _ (by omega)]; exact h1, h2⟩
  · rw [hset _ (by omega)]; exact h.call (upd_ne (by omega) a)
  · rw [hset _ (by omega)]; exact h.mv (upd_ne (by omega) a)
  · rw [hset _ (by omega)]; exact h.ex0 (upd_ne (by omega) a)
  · rw [hset _ (by omega)]; exact h.ex1 (upd_ne (by omega) a)
  · simp only [hd6]; simp [go_sem]
  · simp only [hd6]; simp [go_sem]
  · simp only [hd6]; simp [go_sem]
  · simp [go_sem]
  · rw [hset _ (by omega)]; exact h.asg (upd_ne (by omega) a)

/-- The store. -/
theorem Draw.store (h : Draw n qs l r e W0 d xs W) (hd : d (n + 5) = true) (hd1 : d (n + 1) = true) {b : Nat} (hb : xs[n + 5]? = some (.pointer (some ⟨b, 0, none⟩))) :
    Draw n qs l r e W0 (fun j => d j || j == n + 6) xs (((W.setCell ⟨b, 0, none⟩ (.int .i64 r.k)).setCell ⟨b, 1, none⟩ (.int .i64 r.i)).setCell ⟨b, 2, none⟩ (.string r.s)) := by
  obtain ⟨b', h1, h2, c0, c1, c2, hf⟩ := h.al hd
  have : b' = b := by rw [h1] at hb; simpa using hb
  subst this
  have h6 : (d (n + 6) || n + 6 == n + 6) = true := by simp
  obtain ⟨s0, s1, s2⟩ := stored3 (k := .int .i64 r.k) (i := .int .i64 r.i) (s := .string r.s) c0 c1 c2
  exact {
    len := h.len
    below := ((h.below.setCell h2 _).setCell h2 _).setCell h2 _
    head := fun j hj hd => h.head j hj (upd_ne (by omega) hd)
    sl := fun _ hh => by rw [h6] at hh; cases hh
    call := fun hh => h.call (upd_ne (by omega) hh)
    mv := fun hh => h.mv (upd_ne (by omega) hh)
    ex0 := fun hh => h.ex0 (upd_ne (by omega) hh)
    ex1 := fun hh => h.ex1 (upd_ne (by omega) hh)
    al := fun _ => ⟨b', hb, h2, by rw [s0]; simp, by rw [s1]; simp, by rw [s2]; simp, fun o => by simp [go_sem, hf]⟩
    asg := fun hh => h.asg (upd_ne (by omega) hh)
    ord := fun _ => by simp [hd, hd1] }
end Go.Proofs.YtddnkjeogidfcaaDoor
