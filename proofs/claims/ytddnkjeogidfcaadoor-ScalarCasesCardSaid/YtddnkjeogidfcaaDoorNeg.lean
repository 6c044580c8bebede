/-  scalar.Neg. -/
import Derived.Test.YtddnkjeogidfcaaDoorArith
import Derived.Test.YtddnkjeogidfcaaDoorQTail
namespace Go.Proofs.YtddnkjeogidfcaaDoor
open Go.RowKit Go.Shelf Go

set_option maxHeartbeats 400000 in
theorem scalar_Neg (v : GV) (w : World) (hv : I64 v.i) :
    Calls Tryd.prog 12 #[v.val] w (Rets (.tuple #[(arithS [45] (GV.num 0) v).1.val, .int .i64 (arithS [45] (GV.num 0) v).2]) w) := by
  have hc := fun W => scalar_Arith ⟨#[45]⟩ (GV.num 0) v W (by unfold GV.num I64; simp) hv
  have hn := scalar_num 0
  rw [show (⟨#[45]⟩ : ByteArray).toList = [45] from by rw [Go.ByteArray.toList_eq]] at hc
  clear hv
  generalize arithS [45] (GV.num 0) v = p at *
  obtain ⟨r, er⟩ := p
  unfold GV.val at *
  go_enter Tryd.func12, Tryd.ntmps12
  go_wp2_with fail
  refine wp_region_later_tail 5 (by kernel_rfl) (by kernel_rfl) (by kernel_rfl) ?_
  simp only [List.take_succ_cons, List.take_zero, List.drop_succ_cons, List.drop_zero]
  repeat (go_big_quiet_step (first | exact Calls.quiet_later (hn _) (fun _ _ h => h) | exact Calls.quiet_later (hc _) (fun _ _ h => h)))
  refine wpQuiet_nil ?_
  rintro w1 ⟨u, rfl⟩
  have hb1 := laterW_below _ u
  generalize laterW _ u = w1 at *
  have r0 := cell_below hb1 (a := ⟨w.heap.size + 1, 0, none⟩) (v := .int .i64 0) (by simp [go_sem])
  have r1 := cell_below hb1 (a := ⟨w.heap.size + 1, 1, none⟩) (v := .int .i64 0) (by simp [go_sem])
  have r2 := cell_below hb1 (a := ⟨w.heap.size + 1, 2, none⟩) (v := .string ⟨#[]⟩) (by simp [go_sem])
  have hz0 : w.heap.size + 1 < w1.heap.size := by have := hb1.size; simp at this; omega
  obtain ⟨hc1, hf1⟩ := bcell hb1
  have hB := later (w := w) (by go_grown) hb1
  go_wp2
  refine bodyPost_ret (ret_cells3 rfl rfl (by first | with_reducible exact stored3 r0 r1 r2) (Tryd.isAgg23 _) (Tryd.sizeOf23 _)) rfl ?_
  exact Rets.mk rfl (by go_grown)
end Go.Proofs.YtddnkjeogidfcaaDoor
