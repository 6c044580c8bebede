/-  Slices of values as lists; slices.IndexFunc and slices.ContainsFunc over them, at whatever predicate. -/
import Derived.Test.YtddnkjeogidfcaaDoorGV
import Derived.Test.YtddnkjeogidfcaaDoorProg
import Derived.WalkKit
import Derived.WalkSpells
import Derived.WalkLawsBesides
import Derived.Handy
import Derived.Deep.Light
import Derived.Deep.LoopGhost
import Derived.Shelf.Lay
import Derived.Lib.Hide
namespace Go.Proofs.YtddnkjeogidfcaaDoor
open Go.RowKit Go.Shelf Go

/-- The slice value v reads, in the world w, as the list l. -/
def VS (w : World) (v : Value) (l : List GV) : Prop :=
  ∃ A c, v = .slice A l.length c ∧ l.length ≤ 281474976710656 ∧ ∀ (j : Nat) (x : GV), l[j]? = some x → ∃ b o : Nat, A = some ⟨b, o, none⟩ ∧
    w.cell? ⟨b, o + j * 3, none⟩ = some (.int .i64 x.k) ∧ w.cell? ⟨b, o + j * 3 + 1, none⟩ = some (.int .i64 x.i) ∧ w.cell? ⟨b, o + j * 3 + 2, none⟩ = some (.string x.s)

theorem lt_of_cell {w : World} {a : Addr} {v : Value} (h : w.cell? a = some v) : a.block < w.heap.size := World.block_lt_of_cell? w a h

theorem cell_below {W w1 : World} (hb : Below W.heap.size W w1) {a : Addr} {v : Value} (h : W.cell? a = some v) : w1.cell? a = some v := by
  rw [hb.cell (lt_of_cell h)]; exact h

theorem VS.below {W w1 : World} {v : Value} {l : List GV} (h : VS W v l) (hb : Below W.heap.size W w1) : VS w1 v l := by
  obtain ⟨A, c, hv, hl, hc⟩ := h
  refine ⟨A, c, hv, hl, fun j x hj => ?_⟩
  obtain ⟨b, o, hA, h0, h1, h2⟩ := hc j x hj
  exact ⟨b, o, hA, cell_below hb h0, cell_below hb h1, cell_below hb h2⟩

/-- What a predicate's call does, in whatever world in which nothing has turned that was there. -/
def PredOn (g : Nat) (lb : Array Value) (p : GV → Bool) (l : List GV) (w : World) : Prop :=
  ∀ W, Below w.heap.size w W → ∀ x, x ∈ l → Calls Tryd.prog g (#[x.val] ++ lb) W (Rets (.bool (p x)) W)

/-- The first place where p holds; -1: nowhere. -/
def idxOf (p : GV → Bool) (l : List GV) : Int := match l.findIdx? p with | some i => i | none => -1

theorem idxOf_hit {p : GV → Bool} {l : List GV} {k : Nat} {x : GV} (hk : l[k]? = some x) (hp : p x = true) (hn : ∀ j y, j < k → l[j]? = some y → p y = false) : idxOf p l = k := by
  unfold idxOf
  have : l.findIdx? p = some k := by
    rw [List.findIdx?_eq_some_iff_getElem]
    obtain ⟨hlt, he⟩ := List.getElem?_eq_some_iff.1 hk
    refine ⟨hlt, by rw [he]; exact hp, fun j hj => ?_⟩
    have := hn j (l[j]'(by omega)) hj (List.getElem?_eq_getElem (by omega))
    simp [this]
  rw [this]
theorem idxOf_none {p : GV → Bool} {l : List GV} (hn : ∀ j y, j < l.length → l[j]? = some y → p y = false) : idxOf p l = -1 := by
  unfold idxOf
  have : l.findIdx? p = none := by
    rw [List.findIdx?_eq_none_iff]
    intro x hx
    obtain ⟨j, hj, he⟩ := List.getElem_of_mem hx
    exact hn j x hj (by rw [List.getElem?_eq_getElem hj, he])
  rw [this]
theorem idxOf_any (p : GV → Bool) (l : List GV) : decide (idxOf p l ≥ 0) = l.any p := by
  unfold idxOf
  cases h : l.findIdx? p with
  | none =>
    rw [List.findIdx?_eq_none_iff] at h
    have : l.any p = false := by simpa using h
    rw [this]; decide
  | some i =>
    have h2 : l.any p = true := by
      have := (List.findIdx?_isSome (xs := l) (p := p)).symm
      rw [h] at this; simpa using this
    rw [h2]; simp

set_option maxHeartbeats 1000000 in
theorem slices_IndexFunc (g : Nat) (lb : Array Value) (eg : ∀ args w, (callFunc g args).run Tryd.prog w = .ok (.enter g args) w) (p : GV → Bool) (v : Value) (l : List GV) (w : World)
    (hv : VS w v l) (hp : PredOn g lb p l w) :
    Calls Tryd.prog 30 #[v, .func (.func g) #[] lb] w (Rets (.int .i64 (idxOf p l)) w) := by
  obtain ⟨A, c, rfl, hlen, hc⟩ := hv
  go_enter Tryd.func30, Tryd.ntmps30
  go_wp2
  go_loopw [5, 8] (fun _ s8 wr => ∃ k : Nat, k ≤ l.length ∧ s8 = .int .i64 k ∧ Below w.heap.size w wr ∧ Hid (∀ j y, j < k → l[j]? = some y → p y = false)) (fun _ s8 _ => l.length - (intOf s8).toNat)
  case atStart => exact ⟨0, Nat.zero_le _, rfl, Below.refl _ _, fun j y hj => absurd hj (Nat.not_lt_zero _)⟩
  case round =>
    obtain ⟨k, hk, rfl, hb, hn⟩ := hrel
    by_cases hlt : k < l.length
    · obtain ⟨b, o, rfl, c0, c1, c2⟩ := hc k l[k] (List.getElem?_eq_getElem hlt)
      have d0 := cell_below hb c0
      have d1 := cell_below hb c1
      have d2 := cell_below hb c2
      have hcall := hp wr hb l[k] (List.getElem_mem hlt)
      have hx := List.getElem?_eq_getElem hlt
      clear hc hp c0 c1 c2
      generalize l[k] = x at d0 d1 d2 hcall hx
      have HX := Lib.hid hx
      clear hx
      unfold GV.val at hcall
      cases hq : p x with
      | true =>
        rw [hq] at hcall
        have HQ := Lib.hid hq
        clear hq
        go_wp2_with (go_at_fn g; refine hcall.mono ?_; rintro e w' ⟨rfl, hb'⟩)
        go_returns
        exact Rets.int (idxOf_hit HX.out HQ.out hn.out).symm (hb.trans (hb'.mono hb.size))
      | false =>
        rw [hq] at hcall
        have HQ := Lib.hid hq
        clear hq
        go_wp2_with (go_at_fn g; refine hcall.mono ?_; rintro e w' ⟨rfl, hb'⟩)
        go_roundw
        case rel => 
          refine ⟨k + 1, by omega, by go_num, hb.trans (hb'.mono hb.size), fun j y hj hy => ?_⟩
          rcases Nat.lt_succ_iff_lt_or_eq.1 hj with h | rfl
          · exact hn.out j y h hy
          · have := HX.out; rw [hy] at this; cases this; exact HQ.out
        case measure => simp [intOf]; omega
    · have : k = l.length := by omega
      have hn' : Hid (∀ j y, j < l.length → l[j]? = some y → p y = false) := by subst this; exact hn
      clear hc hp hn this
      go_wp2
      go_returns
      exact Rets.int (idxOf_none hn'.out).symm hb

set_option maxHeartbeats 1000000 in
theorem slices_ContainsFunc (g : Nat) (lb : Array Value) (eg : ∀ args w, (callFunc g args).run Tryd.prog w = .ok (.enter g args) w) (p : GV → Bool) (v : Value) (l : List GV) (w : World)
    (hv : VS w v l) (hp : PredOn g lb p l w) :
    Calls Tryd.prog 34 #[v, .func (.func g) #[] lb] w (Rets (.bool (l.any p)) w) := by
  have hcall := slices_IndexFunc g lb eg p v l w hv hp
  have ha := Lib.hid (idxOf_any p l)
  clear hv hp eg
  generalize idxOf p l = n at hcall ha
  go_enter Tryd.func34, Tryd.ntmps34
  go_wp2_with (go_at_call 30; refine hcall.mono ?_; rintro e w' ⟨rfl, hb'⟩)
  go_returns
  exact Rets.bool ha.out hb'

/-- Cells of a list of values, one behind the other. -/
def cellsOf (l : List GV) : List Value := l.flatMap fun x => [.int .i64 x.k, .int .i64 x.i, .string x.s]

theorem cellsOf_length (l : List GV) : (cellsOf l).length = 3 * l.length := by
  induction l with
  | nil => rfl
  | cons x l ih => simp only [cellsOf, List.flatMap_cons, List.length_append, List.length_cons, List.length_nil] at *; omega

theorem cellsOf_get (l : List GV) (j : Nat) (x : GV) (h : l[j]? = some x) :
    (cellsOf l)[j * 3]? = some (.int .i64 x.k) ∧ (cellsOf l)[j * 3 + 1]? = some (.int .i64 x.i) ∧ (cellsOf l)[j * 3 + 2]? = some (.string x.s) := by
  induction l generalizing j with
  | nil => simp at h
  | cons y l ih =>
    have e : cellsOf (y :: l) = .int .i64 y.k :: .int .i64 y.i :: .string y.s :: cellsOf l := by simp [cellsOf]
    cases j with
    | zero => simp at h; subst h; rw [e]; exact ⟨rfl, rfl, rfl⟩
    | succ j =>
      have h2 := ih j (by simpa using h)
      rw [e, show (j + 1) * 3 = j * 3 + 1 + 1 + 1 from by omega]
      exact h2

/-- A block that holds just these values' cells, and whatever behind. -/
theorem VS.block {W : World} {b c t : Nat} {f : Nat × Nat} {l : List GV} {more : List Value} (h : W.heap[b]? = some (.cells (cellsOf l ++ more).toArray t f)) (hl : l.length ≤ 281474976710656) :
    VS W (.slice (some ⟨b, 0, none⟩) l.length c) l := by
  refine ⟨_, c, rfl, hl, fun j x hj => ⟨b, 0, rfl, ?_⟩⟩
  have hb : j < l.length := (List.getElem?_eq_some_iff.1 hj).1
  have hn := cellsOf_length l
  obtain ⟨h0, h1, h2⟩ := cellsOf_get l j x hj
  have hg : ∀ i v, (cellsOf l)[i]? = some v → W.cell? ⟨b, 0 + i, none⟩ = some v := by
    intro i v hi
    have : i < (cellsOf l).length := (List.getElem?_eq_some_iff.1 hi).1
    simp only [World.cell?, h, Option.isSome_none, Bool.false_eq_true, if_false, Nat.zero_add, List.getElem?_toArray]
    rw [List.getElem?_append_left this]; exact hi
  exact ⟨hg _ _ h0, by rw [Nat.add_assoc]; exact hg _ _ h1, by rw [Nat.add_assoc]; exact hg _ _ h2⟩

theorem VS.made {W : World} {n m c t : Nat} {cs : Array Value} (l : List GV) (hn : n = W.heap.size) (hm : m = l.length) (hcs : cs = (cellsOf l).toArray) (hl : l.length ≤ 281474976710656) :
    VS (W.alloc (.cells cs t)) (.slice (some ⟨n, 0, none⟩) m c) l := by
  subst hn hm hcs
  exact VS.block (more := []) (by rw [List.append_nil]; exact heap_alloc_new W _) hl

theorem VS.nil (W : World) (A : Option Addr) (c : Nat) : VS W (.slice A 0 c) [] := ⟨A, c, rfl, by simp, fun j x h => by simp at h⟩

end Go.Proofs.YtddnkjeogidfcaaDoor
