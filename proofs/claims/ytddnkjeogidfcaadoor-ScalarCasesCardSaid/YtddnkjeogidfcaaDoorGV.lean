/-  The program's values as plain data: a kind, a number, bytes; what it means for one to be allowed. How a call's end is told. No program in sight. -/
import Derived.WalkKit
import Derived.Handy
namespace Go.Proofs.YtddnkjeogidfcaaDoor
open Go.RowKit

/-- A value: its kind, its number, its bytes. -/
structure GV where
  k : Int
  i : Int
  s : ByteArray
deriving DecidableEq

instance : Inhabited GV := ⟨⟨0, 0, ByteArray.empty⟩⟩

def GV.cells (v : GV) : Array Value := #[.int .i64 v.k, .int .i64 v.i, .string v.s]
def GV.val (v : GV) : Value := .agg #[.int .i64 v.k, .int .i64 v.i, .string v.s]

/-- A number that an int64 can be. -/
def I64 (n : Int) : Prop := -9223372036854775808 ≤ n ∧ n ≤ 9223372036854775807

/-- May this value be? -/
def GV.ok (v : GV) : Bool :=
  (v.k == 0 && v.i == 0 && v.s.toList.isEmpty) || (v.k == 1 && (v.i == 0 || v.i == 1) && v.s.toList.isEmpty) || (v.k == 2 && v.s.toList.isEmpty) || ((v.k == 3 || v.k == 4) && v.i == 0)

/-- The call returns v, and of what was there nothing has turned. -/
def Rets (v : Value) (w : World) (e : Ending) (w' : World) : Prop := e = .returned v ∧ Below w.heap.size w w'
theorem Rets.mk {v v' : Value} {w w' : World} (h : v' = v) (hb : Below w.heap.size w w') : Rets v w (.returned v') w' := ⟨by rw [h], hb⟩
theorem Rets.int {k : IntKind} {n n' : Int} {w w' : World} (h : n' = n) (hb : Below w.heap.size w w') : Rets (.int k n) w (.returned (.int k n')) w' := ⟨by rw [h], hb⟩
theorem Rets.bool {n n' : Bool} {w w' : World} (h : n' = n) (hb : Below w.heap.size w w') : Rets (.bool n) w (.returned (.bool n')) w' := ⟨by rw [h], hb⟩

theorem bcell {W w1 : World} (hb : Below W.heap.size W w1) : (∀ b o, b < W.heap.size → w1.cell? ⟨b, o, none⟩ = W.cell? ⟨b, o, none⟩) ∧ (∀ b o, b < W.heap.size → w1.frozen? ⟨b, o, none⟩ = W.frozen? ⟨b, o, none⟩) :=
  ⟨fun b o h => hb.cell (p := ⟨b, o, none⟩) h, fun b o h => hb.frozen (p := ⟨b, o, none⟩) h⟩

theorem and_split (x y : BitVec 64) : x = (x &&& y) ||| (x &&& ~~~y) := by
  ext j hj
  simp only [BitVec.getElem_or, BitVec.getElem_and, BitVec.getElem_not]
  cases x[j] <;> cases y[j] <;> rfl
theorem andNot_bv (x : BitVec 64) : (x &&& ~~~1#64 = 0#64) ↔ (x = 0#64 ∨ x = 1#64) := by
  constructor
  · intro h
    have e := and_split x 1#64
    rw [h] at e
    have e2 : x.toNat = x.toNat % 2 := by
      have := congrArg BitVec.toNat e
      simpa [Nat.and_one_is_mod] using this
    have : x.toNat = 0 ∨ x.toNat = 1 := by omega
    rcases this with h | h
    · left; exact BitVec.eq_of_toNat_eq (by simpa using h)
    · right; exact BitVec.eq_of_toNat_eq (by simpa using h)
  · rintro (rfl | rfl) <;> decide
theorem andNot_one (i : Int) (hi : I64 i) : (bits BinOp.andNot IntKind.i64 i 1 != 0) = !(i == 0 || i == 1) := by
  unfold I64 at hi
  have h1 : bits BinOp.andNot IntKind.i64 i 1 = IntKind.i64.wrap ((BitVec.ofInt 64 i &&& ~~~1#64).toNat : Int) := rfl
  have hk := andNot_bv (BitVec.ofInt 64 i)
  have hz : (bits BinOp.andNot IntKind.i64 i 1 = 0) ↔ (BitVec.ofInt 64 i &&& ~~~1#64) = 0#64 := by
    rw [h1, IntKind.wrap_i64]
    generalize (BitVec.ofInt 64 i &&& ~~~1#64) = y
    have := y.isLt
    constructor
    · intro h; apply BitVec.eq_of_toNat_eq; simp; omega
    · intro h; subst h; decide
  have hx : ∀ m : Nat, m < 2 → (BitVec.ofInt 64 i = BitVec.ofNat 64 m ↔ i = m) := by
    intro m hm
    constructor
    · intro h
      have := congrArg BitVec.toNat h
      simp [BitVec.toNat_ofInt] at this
      omega
    · intro h; subst h; apply BitVec.eq_of_toNat_eq; simp
  have h0 := hx 0 (by omega)
  have h2 := hx 1 (by omega)
  rw [hk] at hz
  by_cases a : i = 0
  · subst a; decide
  · by_cases b : i = 1
    · subst b; decide
    · have : ¬ bits BinOp.andNot IntKind.i64 i 1 = 0 := by
        rw [hz]; rintro (h | h)
        · exact a (h0.1 h)
        · exact b (h2.1 h)
      rw [show (i == 0) = false from beq_eq_false_iff_ne.2 a, show (i == 1) = false from beq_eq_false_iff_ne.2 b, show (bits BinOp.andNot IntKind.i64 i 1 != 0) = true from bne_iff_ne.2 this]; rfl
theorem later {w W w1 : World} (h1 : Below w.heap.size w W) (h2 : Below W.heap.size W w1) : Below w.heap.size w w1 := h1.trans (h2.mono h1.size)

/-- A struct of three cells, stored whole, reads so. -/
theorem stored3 {W : World} {b : Nat} {x0 x1 x2 k i s : Value} (c0 : W.cell? ⟨b, 0, none⟩ = some x0) (c1 : W.cell? ⟨b, 1, none⟩ = some x1) (c2 : W.cell? ⟨b, 2, none⟩ = some x2) :
    (((W.setCell ⟨b, 0, none⟩ k).setCell ⟨b, 1, none⟩ i).setCell ⟨b, 2, none⟩ s).cell? ⟨b, 0, none⟩ = some k ∧ (((W.setCell ⟨b, 0, none⟩ k).setCell ⟨b, 1, none⟩ i).setCell ⟨b, 2, none⟩ s).cell? ⟨b, 1, none⟩ = some i ∧
    (((W.setCell ⟨b, 0, none⟩ k).setCell ⟨b, 1, none⟩ i).setCell ⟨b, 2, none⟩ s).cell? ⟨b, 2, none⟩ = some s := by
  unfold World.cell? at *
  cases hg : W.heap[b]? with
  | none => simp [hg] at c0
  | some o =>
    cases o with
    | cells c e f =>
      simp only [hg, Option.isSome_none, Bool.false_eq_true, if_false] at c0 c1 c2
      have l0 : 0 < c.size := (Array.getElem?_eq_some_iff.1 c0).1
      have l1 : 1 < c.size := (Array.getElem?_eq_some_iff.1 c1).1
      have l2 : 2 < c.size := (Array.getElem?_eq_some_iff.1 c2).1
      simp [World.setCell, Array.getElem?_modify, hg, l0, l1, l2]
    | _ => simp [hg] at c0

/-- What a function hands back whose first result is such a struct in memory. -/
theorem ret_cells3 {P : Program} {fn : Func} {p u : Tmp} {ty : TypeId} (hr : fn.results = #[.cell p ty, .tmp u]) {tmps : Array Value} {w : World} {b : Nat} {k i s : Value}
    (hp : tmps.getD p undef = .pointer (some ⟨b, 0, none⟩)) (hc : w.cell? ⟨b, 0, none⟩ = some k ∧ w.cell? ⟨b, 1, none⟩ = some i ∧ w.cell? ⟨b, 2, none⟩ = some s)
    (ha : (isAgg ty).run P w = .ok true w) (hs : (sizeOf ty).run P w = .ok 3 w) :
    (results fn tmps).run P w = .ok (.tuple #[.agg #[k, i, s], tmps.getD u undef]) w := by
  rw [results_cell_tmp hr, hp]
  obtain ⟨c0, c1, c2⟩ := hc
  simp [asAddr, loadVar, Sem.run_bind, ha, hs, loadCells, loadCellsFrom, load, Sem.run, Addr.add, c0, c1, c2, Result.andThen]
theorem cell_alloc {w : World} {o : Obj} {a : Addr} {v : Value} (h : w.cell? a = some v) : (w.alloc o).cell? a = some v := by
  rw [World.cell?_alloc_lt w o a (World.block_lt_of_cell? w a h)]; exact h
theorem cells3_alloc {w : World} {o : Obj} {b : Nat} {k i s : Value} (h : w.cell? ⟨b, 0, none⟩ = some k ∧ w.cell? ⟨b, 1, none⟩ = some i ∧ w.cell? ⟨b, 2, none⟩ = some s) :
    (w.alloc o).cell? ⟨b, 0, none⟩ = some k ∧ (w.alloc o).cell? ⟨b, 1, none⟩ = some i ∧ (w.alloc o).cell? ⟨b, 2, none⟩ = some s := ⟨cell_alloc h.1, cell_alloc h.2.1, cell_alloc h.2.2⟩
theorem frozen_alloc {w : World} {o : Obj} {b i : Nat} (h : b < w.heap.size) : (w.alloc o).frozen? ⟨b, i, none⟩ = w.frozen? ⟨b, i, none⟩ :=
  (bcell ((Below.refl _ w).alloc (Nat.le_refl _) o)).2 b i h
end Go.Proofs.YtddnkjeogidfcaaDoor
