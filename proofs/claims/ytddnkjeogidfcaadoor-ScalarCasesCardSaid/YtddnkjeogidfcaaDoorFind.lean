/-  scalar.functions, scalar.find: the table of functions, and what is found in it. -/
import Derived.Test.YtddnkjeogidfcaaDoorArith
import Derived.Test.YtddnkjeogidfcaaDoorQTail
namespace Go.Proofs.YtddnkjeogidfcaaDoor
open Go.RowKit Go.Shelf Go

/-- The functions' names. -/
def names : List (List UInt8) := [[97, 98, 115], [115, 105, 103, 110], [108, 101, 110, 103, 116, 104], [108, 111, 119, 101, 114], [117, 112, 112, 101, 114], [116, 114, 105, 109], [115, 117, 98, 115, 116, 114], [105, 110, 115, 116, 114], [114, 101, 112, 108, 97, 99, 101]]
/-- The kinds of their arguments, as bits; and which block of the table's own holds them. -/
def kindsOf : List (List Int) := [[4], [4], [24], [8], [8], [8], [24, 4, 4], [8, 8], [8, 8, 8]]
def kindsAt : List Nat := [0, 1, 2, 3, 7, 11, 13, 14, 15]
/-- What they do. -/
def doOf (n : Nat) : List Value :=
  [.func (.func 46) #[] #[], .func (.func 47) #[] #[], .func (.func 49) #[] #[],
   .func (.func 62) #[] #[.pointer (some ⟨n + 6, 0, none⟩)], .func (.func 62) #[] #[.pointer (some ⟨n + 10, 0, none⟩)], .func (.func 62) #[] #[.pointer (some ⟨n + 12, 0, none⟩)],
   .func (.func 54) #[] #[], .func (.func 55) #[] #[], .func (.func 56) #[] #[]]

def nameB (i : Nat) : ByteArray := ⟨(names.getD i []).toArray⟩
def kindsV (n i : Nat) : Value := .slice (some ⟨n + kindsAt.getD i 0, 0, none⟩) (kindsOf.getD i []).length (kindsOf.getD i []).length
def doV (n i : Nat) : Value := (doOf n).getD i .nilFunc

/-- The table lies in the blocks from n on. -/
structure FnTable (W : World) (n : Nat) : Prop where
  cells : ∀ i, i < 9 → W.cell? ⟨n + 16, i * 3, none⟩ = some (.string (nameB i)) ∧ W.cell? ⟨n + 16, i * 3 + 1, none⟩ = some (kindsV n i) ∧ W.cell? ⟨n + 16, i * 3 + 2, none⟩ = some (doV n i)
  kinds : ∀ i, i < 9 → ∀ j k, (kindsOf.getD i [])[j]? = some k → W.cell? ⟨n + kindsAt.getD i 0, j, none⟩ = some (.int .i64 k)
  lower : W.cell? ⟨n + 6, 0, none⟩ = some (.func (.func 64) #[] #[.pointer (some ⟨n + 4, 0, none⟩), .pointer (some ⟨n + 5, 0, none⟩)]) ∧ W.cell? ⟨n + 4, 0, none⟩ = some (.int .u8 65) ∧ W.cell? ⟨n + 5, 0, none⟩ = some (.int .u8 97)
  upper : W.cell? ⟨n + 10, 0, none⟩ = some (.func (.func 64) #[] #[.pointer (some ⟨n + 8, 0, none⟩), .pointer (some ⟨n + 9, 0, none⟩)]) ∧ W.cell? ⟨n + 8, 0, none⟩ = some (.int .u8 97) ∧ W.cell? ⟨n + 9, 0, none⟩ = some (.int .u8 65)
  trim : W.cell? ⟨n + 12, 0, none⟩ = some (.func (.func 52) #[] #[])

theorem FnTable.below {W w1 : World} {n : Nat} (h : FnTable W n) (hb : Below W.heap.size W w1) : FnTable w1 n where
  cells i hi := ⟨cell_below hb (h.cells i hi).1, cell_below hb (h.cells i hi).2.1, cell_below hb (h.cells i hi).2.2⟩
  kinds i hi j k hk := cell_below hb (h.kinds i hi j k hk)
  lower := ⟨cell_below hb h.lower.1, cell_below hb h.lower.2.1, cell_below hb h.lower.2.2⟩
  upper := ⟨cell_below hb h.upper.1, cell_below hb h.upper.2.1, cell_below hb h.upper.2.2⟩
  trim := cell_below hb h.trim


/-- Blocks laid one behind the other. -/
def allocs (w : World) (l : List Obj) : World := l.foldl World.alloc w
theorem allocs_size (l : List Obj) : ∀ w : World, (allocs w l).heap.size = w.heap.size + l.length := by
  induction l with
  | nil => intro w; rfl
  | cons o l ih => intro w; show (allocs (w.alloc o) l).heap.size = _; rw [ih]; simp; omega
theorem allocs_below (l : List Obj) : ∀ w : World, Below w.heap.size w (allocs w l) := by
  induction l with
  | nil => intro w; exact Below.refl _ _
  | cons o l ih => intro w; exact later ((Below.refl _ _).alloc (Nat.le_refl _) o) (ih _)
theorem allocs_get (l : List Obj) : ∀ (w : World) (i : Nat) (o : Obj), l[i]? = some o → (allocs w l).heap[w.heap.size + i]? = some o := by
  induction l with
  | nil => intro w i o h; simp at h
  | cons x l ih =>
    intro w i o h
    cases i with
    | zero =>
      simp at h; subst h
      have hb := allocs_below l (w.alloc x)
      show (allocs (w.alloc x) l).heap[w.heap.size]? = _
      rw [hb.block _ (by simp)]
      exact heap_alloc_new w x
    | succ i =>
      have := ih (w.alloc x) i o (by simpa using h)
      show (allocs (w.alloc x) l).heap[w.heap.size + (i + 1)]? = _
      rw [show w.heap.size + (i + 1) = (w.alloc x).heap.size + i from by simp; omega]
      exact this
theorem allocs_cell {l : List Obj} {w : World} {i t : Nat} {c : Array Value} {j : Nat} {v : Value} (h : l[i]? = some (.cells c t)) (hv : c[j]? = some v) : (allocs w l).cell? ⟨w.heap.size + i, j, none⟩ = some v := by
  have := allocs_get l w i _ h
  simp only [World.cell?, this, Option.isSome_none, Bool.false_eq_true, if_false]
  exact hv

def intObj (l : List Int) : Obj := .cells (l.map fun n => Value.int .i64 n).toArray 3
def tableRow (n i : Nat) : List Value := [.string (nameB i), kindsV n i, doV n i]
def tableObjs (n : Nat) : List Obj :=
  [intObj [4], intObj [4], intObj [24], intObj [8], .cells #[.int .u8 65] 5, .cells #[.int .u8 97] 5, .cells #[.func (.func 64) #[] #[.pointer (some ⟨n + 4, 0, none⟩), .pointer (some ⟨n + 5, 0, none⟩)]] 74,
   intObj [8], .cells #[.int .u8 97] 5, .cells #[.int .u8 65] 5, .cells #[.func (.func 64) #[] #[.pointer (some ⟨n + 8, 0, none⟩), .pointer (some ⟨n + 9, 0, none⟩)]] 74,
   intObj [8], .cells #[.func (.func 52) #[] #[]] 74, intObj [24, 4, 4], intObj [8, 8], intObj [8, 8, 8],
   .cells (tableRow n 0 ++ tableRow n 1 ++ tableRow n 2 ++ tableRow n 3 ++ tableRow n 4 ++ tableRow n 5 ++ tableRow n 6 ++ tableRow n 7 ++ tableRow n 8).toArray 55]

theorem kinds_cell (n d : Nat) (w : World) (ks : List Int) (h : (tableObjs n)[d]? = some (intObj ks)) (j : Nat) (k : Int) (hk : ks[j]? = some k) : (allocs w (tableObjs n)).cell? ⟨w.heap.size + d, j, none⟩ = some (.int .i64 k) :=
  allocs_cell (c := (ks.map fun n => Value.int .i64 n).toArray) (t := 3) h (by simp [hk])

theorem table_ok (w : World) : FnTable (allocs w (tableObjs w.heap.size)) w.heap.size where
  cells i hi := by
    have h : ∀ j v, (tableRow w.heap.size 0 ++ tableRow w.heap.size 1 ++ tableRow w.heap.size 2 ++ tableRow w.heap.size 3 ++ tableRow w.heap.size 4 ++ tableRow w.heap.size 5 ++ tableRow w.heap.size 6 ++ tableRow w.heap.size 7 ++ tableRow w.heap.size 8).toArray[j]? = some v →
        (allocs w (tableObjs w.heap.size)).cell? ⟨w.heap.size + 16, j, none⟩ = some v := fun j v hj => allocs_cell (i := 16) rfl hj
    have hc : i = 0 ∨ i = 1 ∨ i = 2 ∨ i = 3 ∨ i = 4 ∨ i = 5 ∨ i = 6 ∨ i = 7 ∨ i = 8 := by omega
    rcases hc with rfl | rfl | rfl | rfl | rfl | rfl | rfl | rfl | rfl <;> exact ⟨h _ _ rfl, h _ _ rfl, h _ _ rfl⟩
  kinds i hi j k hk := by
    have hc : i = 0 ∨ i = 1 ∨ i = 2 ∨ i = 3 ∨ i = 4 ∨ i = 5 ∨ i = 6 ∨ i = 7 ∨ i = 8 := by omega
    rcases hc with rfl | rfl | rfl | rfl | rfl | rfl | rfl | rfl | rfl <;> exact kinds_cell _ _ w _ rfl j k hk
  lower := ⟨allocs_cell (i := 6) rfl rfl, allocs_cell (i := 4) rfl rfl, allocs_cell (i := 5) rfl rfl⟩
  upper := ⟨allocs_cell (i := 10) rfl rfl, allocs_cell (i := 8) rfl rfl, allocs_cell (i := 9) rfl rfl⟩
  trim := allocs_cell (i := 12) rfl rfl

set_option maxHeartbeats 2000000 in
theorem scalar_functions (w : World) :
    Calls Tryd.prog 42 #[] w fun e w' => e = .returned (.slice (some ⟨w.heap.size + 16, 0, none⟩) 9 9) ∧ w' = allocs w (tableObjs w.heap.size) := by
  go_enter Tryd.func42, Tryd.ntmps42
  go_wp2
  go_returns
  exact ⟨rfl, rfl⟩

set_option maxHeartbeats 400000 in
theorem find_1 (nm name : ByteArray) (ks d : Value) (B : Nat) (w : World) (hn : w.cell? ⟨B, 0, none⟩ = some (.string name)) (hB : B < w.heap.size) :
    Calls Tryd.prog 44 #[.agg #[.string nm, ks, d], .pointer (some ⟨B, 0, none⟩)] w (Rets (.bool (nm.toList == name.toList)) w) := by
  go_enter Tryd.func44, Tryd.ntmps44
  go_wp2
  go_returns
  exact Rets.bool rfl (by go_grown)
end Go.Proofs.YtddnkjeogidfcaaDoor
