/-  A value among a law's arguments: what it reads as; and back. -/
import Derived.Test.YtddnkjeogidfcaaDoorGV
import Derived.Test.YtddnkjeogidfcaaDoorProg
import Derived.ProofKit
import Derived.OpenShut
import Derived.SizedLaws
import Derived.Lib.SmallJoins
namespace Go.Proofs.YtddnkjeogidfcaaDoor
open Go Go.Joins Go.ChangeShapes Go.WideShapes Go.ChangeAt Go.RowKit
variable {H : Type} {enc : TypeId × Value → H} {w : World} {base b0 : Nat} {sp : Nat → Bool} {held : Bool}

def GV.data (x : GV) : DataW H := .agg [.lit (.int .i64 x.k), .lit (.int .i64 x.i), .lit (.string x.s.data.toList)]
structure GV.Wf (x : GV) : Prop where
  k : (Lit.int .i64 x.k).wf = true
  i : (Lit.int .i64 x.i).wf = true
  s : x.s.size ≤ maxLen

theorem gv_cells : Tryd.prog.cellsOf 23 = 3 := by kernel_rfl

theorem I64_of_wf {n : Int} (h : (Lit.int .i64 n).wf = true) : I64 n := by simpa [I64, Lit.wf, IntKind.min, IntKind.max, IntKind.signed, IntKind.bits] using h

set_option maxRecDepth 100000 in
theorem open_gv {v : Value} {d : DataW H} {p : List MemPlace} (hv : Value.okWide Tryd.prog w .any b0 23 v) (h : DataW.Trod enc Tryd.prog w base sp held 23 v d p) :
    ∃ x : GV, v = x.val ∧ d = x.data ∧ p = [] ∧ x.Wf := by
  obtain ⟨c0, c1, c2, y0, y1, y2, m, rfl, rfl, rfl, hy0, hy1, hy2⟩ := open_agg3 Tryd.underlying23 (by kernel_rfl) gv_cells hv h
  obtain ⟨k, e0, rfl, w0⟩ := DataW.trod_int Tryd.underlying3 hy0
  obtain ⟨i, e1, rfl, w1⟩ := DataW.trod_int Tryd.underlying2 hy1
  obtain ⟨s, e2, rfl, w2⟩ := DataW.trod_string Tryd.underlying9 hy2
  simp only [List.cons.injEq, and_true] at e0 e1 e2
  subst e0 e1 e2
  exact ⟨⟨k, i, s⟩, rfl, rfl, rfl, ⟨w0, w1, w2⟩⟩

set_option maxRecDepth 100000 in
theorem shut_gv {x : GV} (h : x.Wf) : DataW.Trod enc Tryd.prog w base sp held 23 x.val x.data [] := by
  have := shut_agg3 (v0 := .int .i64 x.k) (v1 := .int .i64 x.i) (v2 := .string x.s) (enc := enc) (w := w) (base := base) (spare := sp) (held := held) (y0 := (.lit (.int .i64 x.k), [])) (y1 := (.lit (.int .i64 x.i), [])) (y2 := (.lit (.string x.s.data.toList), [])) Tryd.underlying23 (by kernel_rfl) gv_cells
    ⟨1, by simp [DataW.trod, Tryd.underlying3, h.k]⟩ ⟨1, by simp [DataW.trod, Tryd.underlying2, h.i]⟩ ⟨1, by simp [DataW.trod, Tryd.underlying9, h.s]⟩
  exact this

theorem gv_weight (x : GV) : x.s.data.toList.length ∈ (x.data (H := H)).weights Tryd.prog 23 := by
  unfold GV.data
  simp [DataW.weights, DataW.weightsEach, Tryd.underlying23]
theorem sized_gv {ts : List TypeId} {ds : List (DataW H)} (h : (DataW.weightsEach Tryd.prog ts ds).all (· ≤ reachBytes) = true) {j : Nat} {x : GV} (ht : ts[j]? = some 23) (hd : ds[j]? = some x.data) : x.s.size ≤ 281474976710656 := by
  have := List.all_eq_true.1 h _ (DataW.weights_mem_each ht hd _ (gv_weight x))
  have h2 := reachBytes_lt
  have h3 : x.s.size = x.s.data.toList.length := rfl
  simp only [decide_eq_true_eq] at this
  omega
end Go.Proofs.YtddnkjeogidfcaaDoor
