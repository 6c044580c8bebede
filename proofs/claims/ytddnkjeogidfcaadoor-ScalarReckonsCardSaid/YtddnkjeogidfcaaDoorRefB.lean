/-  The document's Arith at +, -; at values that may not be, and words that are no sign. -/
import Derived.Test.YtddnkjeogidfcaaDoorRefA
import Derived.Test.YtddnkjeogidfcaaDoorArith
namespace Go.Proofs.YtddnkjeogidfcaaDoor
open Go.RowKit Go.Shelf Go

set_option maxHeartbeats 1000000 in
theorem RefArith_bad (op : ByteArray) (a b : GV) (w : World) (hq : (a.ok && b.ok) = false)
     :
    Calls Tryd.prog 11 #[.string op, a.val, b.val] w (Rets (.tuple #[GV.none.val, .int .i64 1]) w) := by
  have hc := fun W v hv => ref_may2 a b v W hv
  rw [hq] at hc
  unfold GV.val
  clear hq
  go_enter Tryd.func11, Tryd.ntmps11
  go_wp2_with fail
  refine (hc _ _ (VS.made [a, b] (by simp) rfl rfl (by simp))).mono ?_
  rintro e w1 ⟨rfl, hb1⟩
  have r0 := cell_below hb1 (a := ⟨w.heap.size + 1 + 1, 0, none⟩) (v := .int .i64 0) (by simp [go_sem])
  have r1 := cell_below hb1 (a := ⟨w.heap.size + 1 + 1, 1, none⟩) (v := .int .i64 0) (by simp [go_sem])
  have r2 := cell_below hb1 (a := ⟨w.heap.size + 1 + 1, 2, none⟩) (v := .string ⟨#[]⟩) (by simp [go_sem])
  have ak := cell_below hb1 (a := ⟨w.heap.size, 0, none⟩) (v := .int .i64 a.k) (by simp [go_sem])
  have ai := cell_below hb1 (a := ⟨w.heap.size, 1, none⟩) (v := .int .i64 a.i) (by simp [go_sem])
  have bk := cell_below hb1 (a := ⟨w.heap.size + 1, 0, none⟩) (v := .int .i64 b.k) (by simp [go_sem])
  have bi := cell_below hb1 (a := ⟨w.heap.size + 1, 1, none⟩) (v := .int .i64 b.i) (by simp [go_sem])
  have hz0 : w.heap.size < w1.heap.size := by have := hb1.size; simp at this; omega
  have hz1 : w.heap.size + 1 < w1.heap.size := by have := hb1.size; simp at this; omega
  have hz2 : w.heap.size + 1 + 1 < w1.heap.size := by have := hb1.size; simp at this; omega
  have hy0 : w.heap.size < w1.heap.size + 1 := by omega
  have hy1 : w.heap.size + 1 < w1.heap.size + 1 := by omega
  have hx0 : w.heap.size < w1.heap.size + 1 + 1 := by omega
  have hx1 : w.heap.size + 1 < w1.heap.size + 1 + 1 := by omega
  obtain ⟨hc1, hf1⟩ := bcell hb1
  have hB := later (w := w) (by go_grown) hb1
  go_wp2_with fail
  refine bodyPost_ret (ret_cells3 rfl rfl (by first | with_reducible exact stored3 r0 r1 r2 | with_reducible exact cells3_alloc (stored3 r0 r1 r2) | with_reducible exact cells3_alloc (cells3_alloc (stored3 r0 r1 r2)) | with_reducible exact cells3_alloc (cells3_alloc (cells3_alloc (stored3 r0 r1 r2))) | with_reducible exact cells3_alloc (cells3_alloc (cells3_alloc (cells3_alloc (stored3 r0 r1 r2))))) (Tryd.isAgg23 _) (Tryd.sizeOf23 _)) rfl ?_
  exact Rets.mk rfl (by go_grown)

set_option maxHeartbeats 1000000 in
theorem RefArith_op (op : ByteArray) (a b : GV) (w : World) (hq : (a.ok && b.ok) = true)
    (d43 : (op.toList != [43]) = true) (d45 : (op.toList != [45]) = true) (d42 : (op.toList != [42]) = true) (d47 : (op.toList != [47]) = true) (d37 : (op.toList != [37]) = true) (e43 : (op.toList == [43]) = false) (e45 : (op.toList == [45]) = false) (e42 : (op.toList == [42]) = false) (e47 : (op.toList == [47]) = false) (e37 : (op.toList == [37]) = false) :
    Calls Tryd.prog 11 #[.string op, a.val, b.val] w (Rets (.tuple #[GV.none.val, .int .i64 1]) w) := by
  have hc := fun W v hv => ref_may2 a b v W hv
  rw [hq] at hc
  unfold GV.val
  clear hq
  go_enter Tryd.func11, Tryd.ntmps11
  go_wp2_with fail
  refine (hc _ _ (VS.made [a, b] (by simp) rfl rfl (by simp))).mono ?_
  rintro e w1 ⟨rfl, hb1⟩
  have r0 := cell_below hb1 (a := ⟨w.heap.size + 1 + 1, 0, none⟩) (v := .int .i64 0) (by simp [go_sem])
  have r1 := cell_below hb1 (a := ⟨w.heap.size + 1 + 1, 1, none⟩) (v := .int .i64 0) (by simp [go_sem])
  have r2 := cell_below hb1 (a := ⟨w.heap.size + 1 + 1, 2, none⟩) (v := .string ⟨#[]⟩) (by simp [go_sem])
  have ak := cell_below hb1 (a := ⟨w.heap.size, 0, none⟩) (v := .int .i64 a.k) (by simp [go_sem])
  have ai := cell_below hb1 (a := ⟨w.heap.size, 1, none⟩) (v := .int .i64 a.i) (by simp [go_sem])
  have bk := cell_below hb1 (a := ⟨w.heap.size + 1, 0, none⟩) (v := .int .i64 b.k) (by simp [go_sem])
  have bi := cell_below hb1 (a := ⟨w.heap.size + 1, 1, none⟩) (v := .int .i64 b.i) (by simp [go_sem])
  have hz0 : w.heap.size < w1.heap.size := by have := hb1.size; simp at this; omega
  have hz1 : w.heap.size + 1 < w1.heap.size := by have := hb1.size; simp at this; omega
  have hz2 : w.heap.size + 1 + 1 < w1.heap.size := by have := hb1.size; simp at this; omega
  have hy0 : w.heap.size < w1.heap.size + 1 := by omega
  have hy1 : w.heap.size + 1 < w1.heap.size + 1 := by omega
  have hx0 : w.heap.size < w1.heap.size + 1 + 1 := by omega
  have hx1 : w.heap.size + 1 < w1.heap.size + 1 + 1 := by omega
  obtain ⟨hc1, hf1⟩ := bcell hb1
  have hB := later (w := w) (by go_grown) hb1
  go_wp2_with fail
  refine bodyPost_ret (ret_cells3 rfl rfl (by first | with_reducible exact stored3 r0 r1 r2 | with_reducible exact cells3_alloc (stored3 r0 r1 r2) | with_reducible exact cells3_alloc (cells3_alloc (stored3 r0 r1 r2)) | with_reducible exact cells3_alloc (cells3_alloc (cells3_alloc (stored3 r0 r1 r2))) | with_reducible exact cells3_alloc (cells3_alloc (cells3_alloc (cells3_alloc (stored3 r0 r1 r2))))) (Tryd.isAgg23 _) (Tryd.sizeOf23 _)) rfl ?_
  exact Rets.mk rfl (by go_grown)

set_option maxHeartbeats 1000000 in
theorem RefArith43_kind0 (a b : GV) (w : World) (hq : (a.ok && b.ok) = true)
    (h0 : (a.k != 0) = true) (h2 : (a.k != 2) = true) :
    Calls Tryd.prog 11 #[.string ⟨#[43]⟩, a.val, b.val] w (Rets (.tuple #[GV.none.val, .int .i64 20]) w) := by
  have hc := fun W v hv => ref_may2 a b v W hv
  rw [hq] at hc
  unfold GV.val
  clear hq
  go_enter Tryd.func11, Tryd.ntmps11
  go_wp2_with fail
  refine (hc _ _ (VS.made [a, b] (by simp) rfl rfl (by simp))).mono ?_
  rintro e w1 ⟨rfl, hb1⟩
  have r0 := cell_below hb1 (a := ⟨w.heap.size + 1 + 1, 0, none⟩) (v := .int .i64 0) (by simp [go_sem])
  have r1 := cell_below hb1 (a := ⟨w.heap.size + 1 + 1, 1, none⟩) (v := .int .i64 0) (by simp [go_sem])
  have r2 := cell_below hb1 (a := ⟨w.heap.size + 1 + 1, 2, none⟩) (v := .string ⟨#[]⟩) (by simp [go_sem])
  have ak := cell_below hb1 (a := ⟨w.heap.size, 0, none⟩) (v := .int .i64 a.k) (by simp [go_sem])
  have ai := cell_below hb1 (a := ⟨w.heap.size, 1, none⟩) (v := .int .i64 a.i) (by simp [go_sem])
  have bk := cell_below hb1 (a := ⟨w.heap.size + 1, 0, none⟩) (v := .int .i64 b.k) (by simp [go_sem])
  have bi := cell_below hb1 (a := ⟨w.heap.size + 1, 1, none⟩) (v := .int .i64 b.i) (by simp [go_sem])
  have hz0 : w.heap.size < w1.heap.size := by have := hb1.size; simp at this; omega
  have hz1 : w.heap.size + 1 < w1.heap.size := by have := hb1.size; simp at this; omega
  have hz2 : w.heap.size + 1 + 1 < w1.heap.size := by have := hb1.size; simp at this; omega
  have hy0 : w.heap.size < w1.heap.size + 1 := by omega
  have hy1 : w.heap.size + 1 < w1.heap.size + 1 := by omega
  have hx0 : w.heap.size < w1.heap.size + 1 + 1 := by omega
  have hx1 : w.heap.size + 1 < w1.heap.size + 1 + 1 := by omega
  obtain ⟨hc1, hf1⟩ := bcell hb1
  have hB := later (w := w) (by go_grown) hb1
  go_wp2_with fail
  refine wp_loop_rounds 3 ?_
  repeat any_goals (rw [rounds_succ]; go_wp2_with fail)
  refine bodyPost_ret (ret_cells3 rfl rfl (by first | with_reducible exact stored3 r0 r1 r2 | with_reducible exact cells3_alloc (stored3 r0 r1 r2) | with_reducible exact cells3_alloc (cells3_alloc (stored3 r0 r1 r2)) | with_reducible exact cells3_alloc (cells3_alloc (cells3_alloc (stored3 r0 r1 r2))) | with_reducible exact cells3_alloc (cells3_alloc (cells3_alloc (cells3_alloc (stored3 r0 r1 r2))))) (Tryd.isAgg23 _) (Tryd.sizeOf23 _)) rfl ?_
  exact Rets.mk rfl (by go_grown)

set_option maxHeartbeats 1000000 in
theorem RefArith43_kind1a (a b : GV) (w : World) (hq : (a.ok && b.ok) = true)
    (h0 : (a.k != 0) = false) (h0'' : (a.k == 0) = true) (h1 : (b.k != 0) = true) (h2 : (b.k != 2) = true) :
    Calls Tryd.prog 11 #[.string ⟨#[43]⟩, a.val, b.val] w (Rets (.tuple #[GV.none.val, .int .i64 20]) w) := by
  have hc := fun W v hv => ref_may2 a b v W hv
  rw [hq] at hc
  unfold GV.val
  clear hq
  go_enter Tryd.func11, Tryd.ntmps11
  go_wp2_with fail
  refine (hc _ _ (VS.made [a, b] (by simp) rfl rfl (by simp))).mono ?_
  rintro e w1 ⟨rfl, hb1⟩
  have r0 := cell_below hb1 (a := ⟨w.heap.size + 1 + 1, 0, none⟩) (v := .int .i64 0) (by simp [go_sem])
  have r1 := cell_below hb1 (a := ⟨w.heap.size + 1 + 1, 1, none⟩) (v := .int .i64 0) (by simp [go_sem])
  have r2 := cell_below hb1 (a := ⟨w.heap.size + 1 + 1, 2, none⟩) (v := .string ⟨#[]⟩) (by simp [go_sem])
  have ak := cell_below hb1 (a := ⟨w.heap.size, 0, none⟩) (v := .int .i64 a.k) (by simp [go_sem])
  have ai := cell_below hb1 (a := ⟨w.heap.size, 1, none⟩) (v := .int .i64 a.i) (by simp [go_sem])
  have bk := cell_below hb1 (a := ⟨w.heap.size + 1, 0, none⟩) (v := .int .i64 b.k) (by simp [go_sem])
  have bi := cell_below hb1 (a := ⟨w.heap.size + 1, 1, none⟩) (v := .int .i64 b.i) (by simp [go_sem])
  have hz0 : w.heap.size < w1.heap.size := by have := hb1.size; simp at this; omega
  have hz1 : w.heap.size + 1 < w1.heap.size := by have := hb1.size; simp at this; omega
  have hz2 : w.heap.size + 1 + 1 < w1.heap.size := by have := hb1.size; simp at this; omega
  have hy0 : w.heap.size < w1.heap.size + 1 := by omega
  have hy1 : w.heap.size + 1 < w1.heap.size + 1 := by omega
  have hx0 : w.heap.size < w1.heap.size + 1 + 1 := by omega
  have hx1 : w.heap.size + 1 < w1.heap.size + 1 + 1 := by omega
  obtain ⟨hc1, hf1⟩ := bcell hb1
  have hB := later (w := w) (by go_grown) hb1
  go_wp2_with fail
  refine wp_loop_rounds 3 ?_
  repeat any_goals (rw [rounds_succ]; go_wp2_with fail)
  refine bodyPost_ret (ret_cells3 rfl rfl (by first | with_reducible exact stored3 r0 r1 r2 | with_reducible exact cells3_alloc (stored3 r0 r1 r2) | with_reducible exact cells3_alloc (cells3_alloc (stored3 r0 r1 r2)) | with_reducible exact cells3_alloc (cells3_alloc (cells3_alloc (stored3 r0 r1 r2))) | with_reducible exact cells3_alloc (cells3_alloc (cells3_alloc (cells3_alloc (stored3 r0 r1 r2))))) (Tryd.isAgg23 _) (Tryd.sizeOf23 _)) rfl ?_
  exact Rets.mk rfl (by go_grown)

set_option maxHeartbeats 1000000 in
theorem RefArith43_kind1b (a b : GV) (w : World) (hq : (a.ok && b.ok) = true)
    (h0 : (a.k != 0) = true) (h0'' : (a.k == 0) = false) (h0' : (a.k != 2) = false) (h1 : (b.k != 0) = true) (h2 : (b.k != 2) = true) :
    Calls Tryd.prog 11 #[.string ⟨#[43]⟩, a.val, b.val] w (Rets (.tuple #[GV.none.val, .int .i64 20]) w) := by
  have hc := fun W v hv => ref_may2 a b v W hv
  rw [hq] at hc
  unfold GV.val
  clear hq
  go_enter Tryd.func11, Tryd.ntmps11
  go_wp2_with fail
  refine (hc _ _ (VS.made [a, b] (by simp) rfl rfl (by simp))).mono ?_
  rintro e w1 ⟨rfl, hb1⟩
  have r0 := cell_below hb1 (a := ⟨w.heap.size + 1 + 1, 0, none⟩) (v := .int .i64 0) (by simp [go_sem])
  have r1 := cell_below hb1 (a := ⟨w.heap.size + 1 + 1, 1, none⟩) (v := .int .i64 0) (by simp [go_sem])
  have r2 := cell_below hb1 (a := ⟨w.heap.size + 1 + 1, 2, none⟩) (v := .string ⟨#[]⟩) (by simp [go_sem])
  have ak := cell_below hb1 (a := ⟨w.heap.size, 0, none⟩) (v := .int .i64 a.k) (by simp [go_sem])
  have ai := cell_below hb1 (a := ⟨w.heap.size, 1, none⟩) (v := .int .i64 a.i) (by simp [go_sem])
  have bk := cell_below hb1 (a := ⟨w.heap.size + 1, 0, none⟩) (v := .int .i64 b.k) (by simp [go_sem])
  have bi := cell_below hb1 (a := ⟨w.heap.size + 1, 1, none⟩) (v := .int .i64 b.i) (by simp [go_sem])
  have hz0 : w.heap.size < w1.heap.size := by have := hb1.size; simp at this; omega
  have hz1 : w.heap.size + 1 < w1.heap.size := by have := hb1.size; simp at this; omega
  have hz2 : w.heap.size + 1 + 1 < w1.heap.size := by have := hb1.size; simp at this; omega
  have hy0 : w.heap.size < w1.heap.size + 1 := by omega
  have hy1 : w.heap.size + 1 < w1.heap.size + 1 := by omega
  have hx0 : w.heap.size < w1.heap.size + 1 + 1 := by omega
  have hx1 : w.heap.size + 1 < w1.heap.size + 1 + 1 := by omega
  obtain ⟨hc1, hf1⟩ := bcell hb1
  have hB := later (w := w) (by go_grown) hb1
  go_wp2_with fail
  refine wp_loop_rounds 3 ?_
  repeat any_goals (rw [rounds_succ]; go_wp2_with fail)
  refine bodyPost_ret (ret_cells3 rfl rfl (by first | with_reducible exact stored3 r0 r1 r2 | with_reducible exact cells3_alloc (stored3 r0 r1 r2) | with_reducible exact cells3_alloc (cells3_alloc (stored3 r0 r1 r2)) | with_reducible exact cells3_alloc (cells3_alloc (cells3_alloc (stored3 r0 r1 r2))) | with_reducible exact cells3_alloc (cells3_alloc (cells3_alloc (cells3_alloc (stored3 r0 r1 r2))))) (Tryd.isAgg23 _) (Tryd.sizeOf23 _)) rfl ?_
  exact Rets.mk rfl (by go_grown)

set_option maxHeartbeats 1000000 in
theorem RefArith43_nulla (a b : GV) (w : World) (hq : (a.ok && b.ok) = true)
    (h0 : (a.k != 0) = false) (h0'' : (a.k == 0) = true) (h1 : (b.k != 0) = false) (h1'' : (b.k == 0) = true) :
    Calls Tryd.prog 11 #[.string ⟨#[43]⟩, a.val, b.val] w (Rets (.tuple #[GV.none.val, .int .i64 0]) w) := by
  have hc := fun W v hv => ref_may2 a b v W hv
  rw [hq] at hc
  unfold GV.val
  clear hq
  go_enter Tryd.func11, Tryd.ntmps11
  go_wp2_with fail
  refine (hc _ _ (VS.made [a, b] (by simp) rfl rfl (by simp))).mono ?_
  rintro e w1 ⟨rfl, hb1⟩
  have r0 := cell_below hb1 (a := ⟨w.heap.size + 1 + 1, 0, none⟩) (v := .int .i64 0) (by simp [go_sem])
  have r1 := cell_below hb1 (a := ⟨w.heap.size + 1 + 1, 1, none⟩) (v := .int .i64 0) (by simp [go_sem])
  have r2 := cell_below hb1 (a := ⟨w.heap.size + 1 + 1, 2, none⟩) (v := .string ⟨#[]⟩) (by simp [go_sem])
  have ak := cell_below hb1 (a := ⟨w.heap.size, 0, none⟩) (v := .int .i64 a.k) (by simp [go_sem])
  have ai := cell_below hb1 (a := ⟨w.heap.size, 1, none⟩) (v := .int .i64 a.i) (by simp [go_sem])
  have bk := cell_below hb1 (a := ⟨w.heap.size + 1, 0, none⟩) (v := .int .i64 b.k) (by simp [go_sem])
  have bi := cell_below hb1 (a := ⟨w.heap.size + 1, 1, none⟩) (v := .int .i64 b.i) (by simp [go_sem])
  have hz0 : w.heap.size < w1.heap.size := by have := hb1.size; simp at this; omega
  have hz1 : w.heap.size + 1 < w1.heap.size := by have := hb1.size; simp at this; omega
  have hz2 : w.heap.size + 1 + 1 < w1.heap.size := by have := hb1.size; simp at this; omega
  have hy0 : w.heap.size < w1.heap.size + 1 := by omega
  have hy1 : w.heap.size + 1 < w1.heap.size + 1 := by omega
  have hx0 : w.heap.size < w1.heap.size + 1 + 1 := by omega
  have hx1 : w.heap.size + 1 < w1.heap.size + 1 + 1 := by omega
  obtain ⟨hc1, hf1⟩ := bcell hb1
  have hB := later (w := w) (by go_grown) hb1
  go_wp2_with fail
  refine wp_loop_rounds 3 ?_
  repeat any_goals (rw [rounds_succ]; go_wp2_with fail)
  refine bodyPost_ret (ret_cells3 rfl rfl (by first | with_reducible exact stored3 r0 r1 r2 | with_reducible exact cells3_alloc (stored3 r0 r1 r2) | with_reducible exact cells3_alloc (cells3_alloc (stored3 r0 r1 r2)) | with_reducible exact cells3_alloc (cells3_alloc (cells3_alloc (stored3 r0 r1 r2))) | with_reducible exact cells3_alloc (cells3_alloc (cells3_alloc (cells3_alloc (stored3 r0 r1 r2))))) (Tryd.isAgg23 _) (Tryd.sizeOf23 _)) rfl ?_
  exact Rets.mk rfl (by go_grown)

set_option maxHeartbeats 1000000 in
theorem RefArith43_nullb (a b : GV) (w : World) (hq : (a.ok && b.ok) = true)
    (h0 : (a.k != 0) = false) (h0'' : (a.k == 0) = true) (h1 : (b.k != 0) = true) (h1'' : (b.k == 0) = false) (h1' : (b.k != 2) = false) :
    Calls Tryd.prog 11 #[.string ⟨#[43]⟩, a.val, b.val] w (Rets (.tuple #[GV.none.val, .int .i64 0]) w) := by
  have hc := fun W v hv => ref_may2 a b v W hv
  rw [hq] at hc
  unfold GV.val
  clear hq
  go_enter Tryd.func11, Tryd.ntmps11
  go_wp2_with fail
  refine (hc _ _ (VS.made [a, b] (by simp) rfl rfl (by simp))).mono ?_
  rintro e w1 ⟨rfl, hb1⟩
  have r0 := cell_below hb1 (a := ⟨w.heap.size + 1 + 1, 0, none⟩) (v := .int .i64 0) (by simp [go_sem])
  have r1 := cell_below hb1 (a := ⟨w.heap.size + 1 + 1, 1, none⟩) (v := .int .i64 0) (by simp [go_sem])
  have r2 := cell_below hb1 (a := ⟨w.heap.size + 1 + 1, 2, none⟩) (v := .string ⟨#[]⟩) (by simp [go_sem])
  have ak := cell_below hb1 (a := ⟨w.heap.size, 0, none⟩) (v := .int .i64 a.k) (by simp [go_sem])
  have ai := cell_below hb1 (a := ⟨w.heap.size, 1, none⟩) (v := .int .i64 a.i) (by simp [go_sem])
  have bk := cell_below hb1 (a := ⟨w.heap.size + 1, 0, none⟩) (v := .int .i64 b.k) (by simp [go_sem])
  have bi := cell_below hb1 (a := ⟨w.heap.size + 1, 1, none⟩) (v := .int .i64 b.i) (by simp [go_sem])
  have hz0 : w.heap.size < w1.heap.size := by have := hb1.size; simp at this; omega
  have hz1 : w.heap.size + 1 < w1.heap.size := by have := hb1.size; simp at this; omega
  have hz2 : w.heap.size + 1 + 1 < w1.heap.size := by have := hb1.size; simp at this; omega
  have hy0 : w.heap.size < w1.heap.size + 1 := by omega
  have hy1 : w.heap.size + 1 < w1.heap.size + 1 := by omega
  have hx0 : w.heap.size < w1.heap.size + 1 + 1 := by omega
  have hx1 : w.heap.size + 1 < w1.heap.size + 1 + 1 := by omega
  obtain ⟨hc1, hf1⟩ := bcell hb1
  have hB := later (w := w) (by go_grown) hb1
  go_wp2_with fail
  refine wp_loop_rounds 3 ?_
  repeat any_goals (rw [rounds_succ]; go_wp2_with fail)
  refine bodyPost_ret (ret_cells3 rfl rfl (by first | with_reducible exact stored3 r0 r1 r2 | with_reducible exact cells3_alloc (stored3 r0 r1 r2) | with_reducible exact cells3_alloc (cells3_alloc (stored3 r0 r1 r2)) | with_reducible exact cells3_alloc (cells3_alloc (cells3_alloc (stored3 r0 r1 r2))) | with_reducible exact cells3_alloc (cells3_alloc (cells3_alloc (cells3_alloc (stored3 r0 r1 r2))))) (Tryd.isAgg23 _) (Tryd.sizeOf23 _)) rfl ?_
  exact Rets.mk rfl (by go_grown)

set_option maxHeartbeats 1000000 in
theorem RefArith43_nullc (a b : GV) (w : World) (hq : (a.ok && b.ok) = true)
    (h0 : (a.k != 0) = true) (h0'' : (a.k == 0) = false) (h0' : (a.k != 2) = false) (h1 : (b.k != 0) = false) (h1'' : (b.k == 0) = true) :
    Calls Tryd.prog 11 #[.string ⟨#[43]⟩, a.val, b.val] w (Rets (.tuple #[GV.none.val, .int .i64 0]) w) := by
  have hc := fun W v hv => ref_may2 a b v W hv
  rw [hq] at hc
  unfold GV.val
  clear hq
  go_enter Tryd.func11, Tryd.ntmps11
  go_wp2_with fail
  refine (hc _ _ (VS.made [a, b] (by simp) rfl rfl (by simp))).mono ?_
  rintro e w1 ⟨rfl, hb1⟩
  have r0 := cell_below hb1 (a := ⟨w.heap.size + 1 + 1, 0, none⟩) (v := .int .i64 0) (by simp [go_sem])
  have r1 := cell_below hb1 (a := ⟨w.heap.size + 1 + 1, 1, none⟩) (v := .int .i64 0) (by simp [go_sem])
  have r2 := cell_below hb1 (a := ⟨w.heap.size + 1 + 1, 2, none⟩) (v := .string ⟨#[]⟩) (by simp [go_sem])
  have ak := cell_below hb1 (a := ⟨w.heap.size, 0, none⟩) (v := .int .i64 a.k) (by simp [go_sem])
  have ai := cell_below hb1 (a := ⟨w.heap.size, 1, none⟩) (v := .int .i64 a.i) (by simp [go_sem])
  have bk := cell_below hb1 (a := ⟨w.heap.size + 1, 0, none⟩) (v := .int .i64 b.k) (by simp [go_sem])
  have bi := cell_below hb1 (a := ⟨w.heap.size + 1, 1, none⟩) (v := .int .i64 b.i) (by simp [go_sem])
  have hz0 : w.heap.size < w1.heap.size := by have := hb1.size; simp at this; omega
  have hz1 : w.heap.size + 1 < w1.heap.size := by have := hb1.size; simp at this; omega
  have hz2 : w.heap.size + 1 + 1 < w1.heap.size := by have := hb1.size; simp at this; omega
  have hy0 : w.heap.size < w1.heap.size + 1 := by omega
  have hy1 : w.heap.size + 1 < w1.heap.size + 1 := by omega
  have hx0 : w.heap.size < w1.heap.size + 1 + 1 := by omega
  have hx1 : w.heap.size + 1 < w1.heap.size + 1 + 1 := by omega
  obtain ⟨hc1, hf1⟩ := bcell hb1
  have hB := later (w := w) (by go_grown) hb1
  go_wp2_with fail
  refine wp_loop_rounds 3 ?_
  repeat any_goals (rw [rounds_succ]; go_wp2_with fail)
  refine bodyPost_ret (ret_cells3 rfl rfl (by first | with_reducible exact stored3 r0 r1 r2 | with_reducible exact cells3_alloc (stored3 r0 r1 r2) | with_reducible exact cells3_alloc (cells3_alloc (stored3 r0 r1 r2)) | with_reducible exact cells3_alloc (cells3_alloc (cells3_alloc (stored3 r0 r1 r2))) | with_reducible exact cells3_alloc (cells3_alloc (cells3_alloc (cells3_alloc (stored3 r0 r1 r2))))) (Tryd.isAgg23 _) (Tryd.sizeOf23 _)) rfl ?_
  exact Rets.mk rfl (by go_grown)

set_option maxHeartbeats 1000000 in
theorem RefArith43_err (a b : GV) (w : World) (hq : (a.ok && b.ok) = true)
    (h0 : (a.k != 0) = true) (h0'' : (a.k == 0) = false) (h0' : (a.k != 2) = false) (h1 : (b.k != 0) = true) (h1'' : (b.k == 0) = false) (h1' : (b.k != 2) = false) (n er : Int) (hr : ∀ W, Calls Tryd.prog 28 #[.string ⟨#[43]⟩, .int .i64 a.i, .int .i64 b.i] W (Rets (.tuple #[.int .i64 n, .int .i64 er]) W)) (her : (er != 0) = true) :
    Calls Tryd.prog 11 #[.string ⟨#[43]⟩, a.val, b.val] w (Rets (.tuple #[GV.none.val, .int .i64 er]) w) := by
  have hc := fun W v hv => ref_may2 a b v W hv
  rw [hq] at hc
  unfold GV.val
  clear hq
  go_enter Tryd.func11, Tryd.ntmps11
  go_wp2_with fail
  refine (hc _ _ (VS.made [a, b] (by simp) rfl rfl (by simp))).mono ?_
  rintro e w1 ⟨rfl, hb1⟩
  have r0 := cell_below hb1 (a := ⟨w.heap.size + 1 + 1, 0, none⟩) (v := .int .i64 0) (by simp [go_sem])
  have r1 := cell_below hb1 (a := ⟨w.heap.size + 1 + 1, 1, none⟩) (v := .int .i64 0) (by simp [go_sem])
  have r2 := cell_below hb1 (a := ⟨w.heap.size + 1 + 1, 2, none⟩) (v := .string ⟨#[]⟩) (by simp [go_sem])
  have ak := cell_below hb1 (a := ⟨w.heap.size, 0, none⟩) (v := .int .i64 a.k) (by simp [go_sem])
  have ai := cell_below hb1 (a := ⟨w.heap.size, 1, none⟩) (v := .int .i64 a.i) (by simp [go_sem])
  have bk := cell_below hb1 (a := ⟨w.heap.size + 1, 0, none⟩) (v := .int .i64 b.k) (by simp [go_sem])
  have bi := cell_below hb1 (a := ⟨w.heap.size + 1, 1, none⟩) (v := .int .i64 b.i) (by simp [go_sem])
  have hz0 : w.heap.size < w1.heap.size := by have := hb1.size; simp at this; omega
  have hz1 : w.heap.size + 1 < w1.heap.size := by have := hb1.size; simp at this; omega
  have hz2 : w.heap.size + 1 + 1 < w1.heap.size := by have := hb1.size; simp at this; omega
  have hy0 : w.heap.size < w1.heap.size + 1 := by omega
  have hy1 : w.heap.size + 1 < w1.heap.size + 1 := by omega
  have hx0 : w.heap.size < w1.heap.size + 1 + 1 := by omega
  have hx1 : w.heap.size + 1 < w1.heap.size + 1 + 1 := by omega
  obtain ⟨hc1, hf1⟩ := bcell hb1
  have hB := later (w := w) (by go_grown) hb1
  go_wp2_with fail
  refine wp_loop_rounds 3 ?_
  repeat any_goals (rw [rounds_succ]; go_wp2_with fail)
  refine (hr _).mono ?_
  rintro e w3 ⟨rfl, hb3⟩
  have q0 := cell_below hb3 (cell_alloc (cell_alloc (cell_alloc r0)))
  have q1 := cell_below hb3 (cell_alloc (cell_alloc (cell_alloc r1)))
  have q2 := cell_below hb3 (cell_alloc (cell_alloc (cell_alloc r2)))
  have fz := bcell hb3
  have hB3 := later (w := w) (by go_grown) hb3
  have hz32 : w.heap.size + 1 + 1 < w3.heap.size := by have := hb3.size; simp at this; omega
  have f0 : w3.frozen? ⟨w.heap.size + 1 + 1, 0, none⟩ = false := by rw [fz.2 _ _ (by simp; omega)]; simp [go_sem, *]
  have f1 : w3.frozen? ⟨w.heap.size + 1 + 1, 1, none⟩ = false := by rw [fz.2 _ _ (by simp; omega)]; simp [go_sem, *]
  have f2 : w3.frozen? ⟨w.heap.size + 1 + 1, 2, none⟩ = false := by rw [fz.2 _ _ (by simp; omega)]; simp [go_sem, *]
  clear hc1 hf1 fz r0 r1 r2 hB hz0 hz1 hz2 hy0 hy1 hx0 hx1 hc ak ai bk bi
  go_wp2
  refine bodyPost_ret (ret_cells3 rfl rfl (by first | with_reducible exact stored3 q0 q1 q2 | with_reducible exact cells3_alloc (stored3 q0 q1 q2) | with_reducible exact cells3_alloc (cells3_alloc (stored3 q0 q1 q2)) | with_reducible exact cells3_alloc (cells3_alloc (cells3_alloc (stored3 q0 q1 q2))) | with_reducible exact cells3_alloc (cells3_alloc (cells3_alloc (cells3_alloc (stored3 q0 q1 q2))))) (Tryd.isAgg23 _) (Tryd.sizeOf23 _)) rfl ?_
  exact Rets.mk rfl (by go_grown)

set_option maxHeartbeats 1000000 in
theorem RefArith43_ok (a b : GV) (w : World) (hq : (a.ok && b.ok) = true)
    (h0 : (a.k != 0) = true) (h0'' : (a.k == 0) = false) (h0' : (a.k != 2) = false) (h1 : (b.k != 0) = true) (h1'' : (b.k == 0) = false) (h1' : (b.k != 2) = false) (n : Int) (hr : ∀ W, Calls Tryd.prog 28 #[.string ⟨#[43]⟩, .int .i64 a.i, .int .i64 b.i] W (Rets (.tuple #[.int .i64 n, .int .i64 0]) W)) :
    Calls Tryd.prog 11 #[.string ⟨#[43]⟩, a.val, b.val] w (Rets (.tuple #[(GV.num n).val, .int .i64 0]) w) := by
  have hc := fun W v hv => ref_may2 a b v W hv
  rw [hq] at hc
  have hnum := ref_Int1 n
  unfold GV.val
  clear hq
  go_enter Tryd.func11, Tryd.ntmps11
  go_wp2_with fail
  refine (hc _ _ (VS.made [a, b] (by simp) rfl rfl (by simp))).mono ?_
  rintro e w1 ⟨rfl, hb1⟩
  have r0 := cell_below hb1 (a := ⟨w.heap.size + 1 + 1, 0, none⟩) (v := .int .i64 0) (by simp [go_sem])
  have r1 := cell_below hb1 (a := ⟨w.heap.size + 1 + 1, 1, none⟩) (v := .int .i64 0) (by simp [go_sem])
  have r2 := cell_below hb1 (a := ⟨w.heap.size + 1 + 1, 2, none⟩) (v := .string ⟨#[]⟩) (by simp [go_sem])
  have ak := cell_below hb1 (a := ⟨w.heap.size, 0, none⟩) (v := .int .i64 a.k) (by simp [go_sem])
  have ai := cell_below hb1 (a := ⟨w.heap.size, 1, none⟩) (v := .int .i64 a.i) (by simp [go_sem])
  have bk := cell_below hb1 (a := ⟨w.heap.size + 1, 0, none⟩) (v := .int .i64 b.k) (by simp [go_sem])
  have bi := cell_below hb1 (a := ⟨w.heap.size + 1, 1, none⟩) (v := .int .i64 b.i) (by simp [go_sem])
  have hz0 : w.heap.size < w1.heap.size := by have := hb1.size; simp at this; omega
  have hz1 : w.heap.size + 1 < w1.heap.size := by have := hb1.size; simp at this; omega
  have hz2 : w.heap.size + 1 + 1 < w1.heap.size := by have := hb1.size; simp at this; omega
  have hy0 : w.heap.size < w1.heap.size + 1 := by omega
  have hy1 : w.heap.size + 1 < w1.heap.size + 1 := by omega
  have hx0 : w.heap.size < w1.heap.size + 1 + 1 := by omega
  have hx1 : w.heap.size + 1 < w1.heap.size + 1 + 1 := by omega
  obtain ⟨hc1, hf1⟩ := bcell hb1
  have hB := later (w := w) (by go_grown) hb1
  go_wp2_with fail
  refine wp_loop_rounds 3 ?_
  repeat any_goals (rw [rounds_succ]; go_wp2_with fail)
  refine (hr _).mono ?_
  rintro e w3 ⟨rfl, hb3⟩
  have q0 := cell_below hb3 (cell_alloc (cell_alloc (cell_alloc r0)))
  have q1 := cell_below hb3 (cell_alloc (cell_alloc (cell_alloc r1)))
  have q2 := cell_below hb3 (cell_alloc (cell_alloc (cell_alloc r2)))
  have fz := bcell hb3
  have hB3 := later (w := w) (by go_grown) hb3
  have hz32 : w.heap.size + 1 + 1 < w3.heap.size := by have := hb3.size; simp at this; omega
  have f0 : w3.frozen? ⟨w.heap.size + 1 + 1, 0, none⟩ = false := by rw [fz.2 _ _ (by simp; omega)]; simp [go_sem, *]
  have f1 : w3.frozen? ⟨w.heap.size + 1 + 1, 1, none⟩ = false := by rw [fz.2 _ _ (by simp; omega)]; simp [go_sem, *]
  have f2 : w3.frozen? ⟨w.heap.size + 1 + 1, 2, none⟩ = false := by rw [fz.2 _ _ (by simp; omega)]; simp [go_sem, *]
  clear hc1 hf1 fz r0 r1 r2 hB hz0 hz1 hz2 hy0 hy1 hx0 hx1 hc ak ai bk bi
  go_wp2_with fail
  refine (hnum _).mono ?_
  rintro e w5 ⟨rfl, hb5⟩
  have o0 := cell_below hb5 q0
  have o1 := cell_below hb5 q1
  have o2 := cell_below hb5 q2
  have e0 : w5.frozen? ⟨w.heap.size + 1 + 1, 0, none⟩ = false := by rw [(bcell hb5).2 _ _ hz32]; exact f0
  have e1 : w5.frozen? ⟨w.heap.size + 1 + 1, 1, none⟩ = false := by rw [(bcell hb5).2 _ _ hz32]; exact f1
  have e2 : w5.frozen? ⟨w.heap.size + 1 + 1, 2, none⟩ = false := by rw [(bcell hb5).2 _ _ hz32]; exact f2
  have hB5 := later hB3 hb5
  clear q0 q1 q2 f0 f1 f2 hB3 hz32
  unfold GV.val GV.num
  go_wp2
  refine bodyPost_ret (ret_cells3 rfl rfl (by first | with_reducible exact stored3 o0 o1 o2 | with_reducible exact cells3_alloc (stored3 o0 o1 o2) | with_reducible exact cells3_alloc (cells3_alloc (stored3 o0 o1 o2)) | with_reducible exact cells3_alloc (cells3_alloc (cells3_alloc (stored3 o0 o1 o2))) | with_reducible exact cells3_alloc (cells3_alloc (cells3_alloc (cells3_alloc (stored3 o0 o1 o2))))) (Tryd.isAgg23 _) (Tryd.sizeOf23 _)) rfl ?_
  exact Rets.mk rfl (by go_grown)

theorem RefArith43 (a b : GV) (w : World) (ha : I64 a.i) (hb : I64 b.i) (hq : (a.ok && b.ok) = true) :
    Calls Tryd.prog 11 #[.string ⟨#[43]⟩, a.val, b.val] w (Rets (.tuple #[(arithS [43] a b).1.val, .int .i64 (arithS [43] a b).2]) w) := by
  unfold arithS
  rw [hq, show signs.contains [43] = true from rfl]
  simp only [Bool.not_true, Bool.false_eq_true, if_false]
  have hr := fun W => ref_arith_add a.i b.i W ha hb
  cases g0 : (a.k == 0) with
  | true =>
    have h0 : (a.k != 0) = false := by rw [bne, g0]; rfl
    rw [h0]
    cases g1 : (b.k == 0) with
    | true =>
      have h1 : (b.k != 0) = false := by rw [bne, g1]; rfl
      rw [h1]
      exact RefArith43_nulla a b w hq h0 g0 h1 g1
    | false =>
      have h1 : (b.k != 0) = true := by rw [bne, g1]; rfl
      rw [h1]
      cases h3 : (b.k != 2) with
      | true => exact RefArith43_kind1a a b w hq h0 g0 h1 h3
      | false => exact RefArith43_nullb a b w hq h0 g0 h1 g1 h3
  | false =>
    have h0 : (a.k != 0) = true := by rw [bne, g0]; rfl
    rw [h0]
    cases h2 : (a.k != 2) with
    | true => exact RefArith43_kind0 a b w hq h0 h2
    | false =>
      cases g1 : (b.k == 0) with
      | true =>
        have h1 : (b.k != 0) = false := by rw [bne, g1]; rfl
        rw [h1]
        exact RefArith43_nullc a b w hq h0 g0 h2 h1 g1
      | false =>
        have h1 : (b.k != 0) = true := by rw [bne, g1]; rfl
        rw [h1]
        cases h3 : (b.k != 2) with
        | true => exact RefArith43_kind1b a b w hq h0 g0 h2 h1 h3
        | false =>
          cases he : ((reckonS [43] a.i b.i).2 != 0) with
          | true => exact RefArith43_err a b w hq h0 g0 h2 h1 g1 h3 _ _ hr he
          | false =>
            have he' : (reckonS [43] a.i b.i).2 = 0 := by simpa using he
            rw [he'] at hr
            exact RefArith43_ok a b w hq h0 g0 h2 h1 g1 h3 _ hr

set_option maxHeartbeats 1000000 in
theorem RefArith45_kind0 (a b : GV) (w : World) (hq : (a.ok && b.ok) = true)
    (h0 : (a.k != 0) = true) (h2 : (a.k != 2) = true) :
    Calls Tryd.prog 11 #[.string ⟨#[45]⟩, a.val, b.val] w (Rets (.tuple #[GV.none.val, .int .i64 20]) w) := by
  have hc := fun W v hv => ref_may2 a b v W hv
  rw [hq] at hc
  unfold GV.val
  clear hq
  go_enter Tryd.func11, Tryd.ntmps11
  go_wp2_with fail
  refine (hc _ _ (VS.made [a, b] (by simp) rfl rfl (by simp))).mono ?_
  rintro e w1 ⟨rfl, hb1⟩
  have r0 := cell_below hb1 (a := ⟨w.heap.size + 1 + 1, 0, none⟩) (v := .int .i64 0) (by simp [go_sem])
  have r1 := cell_below hb1 (a := ⟨w.heap.size + 1 + 1, 1, none⟩) (v := .int .i64 0) (by simp [go_sem])
  have r2 := cell_below hb1 (a := ⟨w.heap.size + 1 + 1, 2, none⟩) (v := .string ⟨#[]⟩) (by simp [go_sem])
  have ak := cell_below hb1 (a := ⟨w.heap.size, 0, none⟩) (v := .int .i64 a.k) (by simp [go_sem])
  have ai := cell_below hb1 (a := ⟨w.heap.size, 1, none⟩) (v := .int .i64 a.i) (by simp [go_sem])
  have bk := cell_below hb1 (a := ⟨w.heap.size + 1, 0, none⟩) (v := .int .i64 b.k) (by simp [go_sem])
  have bi := cell_below hb1 (a := ⟨w.heap.size + 1, 1, none⟩) (v := .int .i64 b.i) (by simp [go_sem])
  have hz0 : w.heap.size < w1.heap.size := by have := hb1.size; simp at this; omega
  have hz1 : w.heap.size + 1 < w1.heap.size := by have := hb1.size; simp at this; omega
  have hz2 : w.heap.size + 1 + 1 < w1.heap.size := by have := hb1.size; simp at this; omega
  have hy0 : w.heap.size < w1.heap.size + 1 := by omega
  have hy1 : w.heap.size + 1 < w1.heap.size + 1 := by omega
  have hx0 : w.heap.size < w1.heap.size + 1 + 1 := by omega
  have hx1 : w.heap.size + 1 < w1.heap.size + 1 + 1 := by omega
  obtain ⟨hc1, hf1⟩ := bcell hb1
  have hB := later (w := w) (by go_grown) hb1
  go_wp2_with fail
  refine wp_loop_rounds 3 ?_
  repeat any_goals (rw [rounds_succ]; go_wp2_with fail)
  refine bodyPost_ret (ret_cells3 rfl rfl (by first | with_reducible exact stored3 r0 r1 r2 | with_reducible exact cells3_alloc (stored3 r0 r1 r2) | with_reducible exact cells3_alloc (cells3_alloc (stored3 r0 r1 r2)) | with_reducible exact cells3_alloc (cells3_alloc (cells3_alloc (stored3 r0 r1 r2))) | with_reducible exact cells3_alloc (cells3_alloc (cells3_alloc (cells3_alloc (stored3 r0 r1 r2))))) (Tryd.isAgg23 _) (Tryd.sizeOf23 _)) rfl ?_
  exact Rets.mk rfl (by go_grown)

set_option maxHeartbeats 1000000 in
theorem RefArith45_kind1a (a b : GV) (w : World) (hq : (a.ok && b.ok) = true)
    (h0 : (a.k != 0) = false) (h0'' : (a.k == 0) = true) (h1 : (b.k != 0) = true) (h2 : (b.k != 2) = true) :
    Calls Tryd.prog 11 #[.string ⟨#[45]⟩, a.val, b.val] w (Rets (.tuple #[GV.none.val, .int .i64 20]) w) := by
  have hc := fun W v hv => ref_may2 a b v W hv
  rw [hq] at hc
  unfold GV.val
  clear hq
  go_enter Tryd.func11, Tryd.ntmps11
  go_wp2_with fail
  refine (hc _ _ (VS.made [a, b] (by simp) rfl rfl (by simp))).mono ?_
  rintro e w1 ⟨rfl, hb1⟩
  have r0 := cell_below hb1 (a := ⟨w.heap.size + 1 + 1, 0, none⟩) (v := .int .i64 0) (by simp [go_sem])
  have r1 := cell_below hb1 (a := ⟨w.heap.size + 1 + 1, 1, none⟩) (v := .int .i64 0) (by simp [go_sem])
  have r2 := cell_below hb1 (a := ⟨w.heap.size + 1 + 1, 2, none⟩) (v := .string ⟨#[]⟩) (by simp [go_sem])
  have ak := cell_below hb1 (a := ⟨w.heap.size, 0, none⟩) (v := .int .i64 a.k) (by simp [go_sem])
  have ai := cell_below hb1 (a := ⟨w.heap.size, 1, none⟩) (v := .int .i64 a.i) (by simp [go_sem])
  have bk := cell_below hb1 (a := ⟨w.heap.size + 1, 0, none⟩) (v := .int .i64 b.k) (by simp [go_sem])
  have bi := cell_below hb1 (a := ⟨w.heap.size + 1, 1, none⟩) (v := .int .i64 b.i) (by simp [go_sem])
  have hz0 : w.heap.size < w1.heap.size := by have := hb1.size; simp at this; omega
  have hz1 : w.heap.size + 1 < w1.heap.size := by have := hb1.size; simp at this; omega
  have hz2 : w.heap.size + 1 + 1 < w1.heap.size := by have := hb1.size; simp at this; omega
  have hy0 : w.heap.size < w1.heap.size + 1 := by omega
  have hy1 : w.heap.size + 1 < w1.heap.size + 1 := by omega
  have hx0 : w.heap.size < w1.heap.size + 1 + 1 := by omega
  have hx1 : w.heap.size + 1 < w1.heap.size + 1 + 1 := by omega
  obtain ⟨hc1, hf1⟩ := bcell hb1
  have hB := later (w := w) (by go_grown) hb1
  go_wp2_with fail
  refine wp_loop_rounds 3 ?_
  repeat any_goals (rw [rounds_succ]; go_wp2_with fail)
  refine bodyPost_ret (ret_cells3 rfl rfl (by first | with_reducible exact stored3 r0 r1 r2 | with_reducible exact cells3_alloc (stored3 r0 r1 r2) | with_reducible exact cells3_alloc (cells3_alloc (stored3 r0 r1 r2)) | with_reducible exact cells3_alloc (cells3_alloc (cells3_alloc (stored3 r0 r1 r2))) | with_reducible exact cells3_alloc (cells3_alloc (cells3_alloc (cells3_alloc (stored3 r0 r1 r2))))) (Tryd.isAgg23 _) (Tryd.sizeOf23 _)) rfl ?_
  exact Rets.mk rfl (by go_grown)

set_option maxHeartbeats 1000000 in
theorem RefArith45_kind1b (a b : GV) (w : World) (hq : (a.ok && b.ok) = true)
    (h0 : (a.k != 0) = true) (h0'' : (a.k == 0) = false) (h0' : (a.k != 2) = false) (h1 : (b.k != 0) = true) (h2 : (b.k != 2) = true) :
    Calls Tryd.prog 11 #[.string ⟨#[45]⟩, a.val, b.val] w (Rets (.tuple #[GV.none.val, .int .i64 20]) w) := by
  have hc := fun W v hv => ref_may2 a b v W hv
  rw [hq] at hc
  unfold GV.val
  clear hq
  go_enter Tryd.func11, Tryd.ntmps11
  go_wp2_with fail
  refine (hc _ _ (VS.made [a, b] (by simp) rfl rfl (by simp))).mono ?_
  rintro e w1 ⟨rfl, hb1⟩
  have r0 := cell_below hb1 (a := ⟨w.heap.size + 1 + 1, 0, none⟩) (v := .int .i64 0) (by simp [go_sem])
  have r1 := cell_below hb1 (a := ⟨w.heap.size + 1 + 1, 1, none⟩) (v := .int .i64 0) (by simp [go_sem])
  have r2 := cell_below hb1 (a := ⟨w.heap.size + 1 + 1, 2, none⟩) (v := .string ⟨#[]⟩) (by simp [go_sem])
  have ak := cell_below hb1 (a := ⟨w.heap.size, 0, none⟩) (v := .int .i64 a.k) (by simp [go_sem])
  have ai := cell_below hb1 (a := ⟨w.heap.size, 1, none⟩) (v := .int .i64 a.i) (by simp [go_sem])
  have bk := cell_below hb1 (a := ⟨w.heap.size + 1, 0, none⟩) (v := .int .i64 b.k) (by simp [go_sem])
  have bi := cell_below hb1 (a := ⟨w.heap.size + 1, 1, none⟩) (v := .int .i64 b.i) (by simp [go_sem])
  have hz0 : w.heap.size < w1.heap.size := by have := hb1.size; simp at this; omega
  have hz1 : w.heap.size + 1 < w1.heap.size := by have := hb1.size; simp at this; omega
  have hz2 : w.heap.size + 1 + 1 < w1.heap.size := by have := hb1.size; simp at this; omega
  have hy0 : w.heap.size < w1.heap.size + 1 := by omega
  have hy1 : w.heap.size + 1 < w1.heap.size + 1 := by omega
  have hx0 : w.heap.size < w1.heap.size + 1 + 1 := by omega
  have hx1 : w.heap.size + 1 < w1.heap.size + 1 + 1 := by omega
  obtain ⟨hc1, hf1⟩ := bcell hb1
  have hB := later (w := w) (by go_grown) hb1
  go_wp2_with fail
  refine wp_loop_rounds 3 ?_
  repeat any_goals (rw [rounds_succ]; go_wp2_with fail)
  refine bodyPost_ret (ret_cells3 rfl rfl (by first | with_reducible exact stored3 r0 r1 r2 | with_reducible exact cells3_alloc (stored3 r0 r1 r2) | with_reducible exact cells3_alloc (cells3_alloc (stored3 r0 r1 r2)) | with_reducible exact cells3_alloc (cells3_alloc (cells3_alloc (stored3 r0 r1 r2))) | with_reducible exact cells3_alloc (cells3_alloc (cells3_alloc (cells3_alloc (stored3 r0 r1 r2))))) (Tryd.isAgg23 _) (Tryd.sizeOf23 _)) rfl ?_
  exact Rets.mk rfl (by go_grown)

set_option maxHeartbeats 1000000 in
theorem RefArith45_nulla (a b : GV) (w : World) (hq : (a.ok && b.ok) = true)
    (h0 : (a.k != 0) = false) (h0'' : (a.k == 0) = true) (h1 : (b.k != 0) = false) (h1'' : (b.k == 0) = true) :
    Calls Tryd.prog 11 #[.string ⟨#[45]⟩, a.val, b.val] w (Rets (.tuple #[GV.none.val, .int .i64 0]) w) := by
  have hc := fun W v hv => ref_may2 a b v W hv
  rw [hq] at hc
  unfold GV.val
  clear hq
  go_enter Tryd.func11, Tryd.ntmps11
  go_wp2_with fail
  refine (hc _ _ (VS.made [a, b] (by simp) rfl rfl (by simp))).mono ?_
  rintro e w1 ⟨rfl, hb1⟩
  have r0 := cell_below hb1 (a := ⟨w.heap.size + 1 + 1, 0, none⟩) (v := .int .i64 0) (by simp [go_sem])
  have r1 := cell_below hb1 (a := ⟨w.heap.size + 1 + 1, 1, none⟩) (v := .int .i64 0) (by simp [go_sem])
  have r2 := cell_below hb1 (a := ⟨w.heap.size + 1 + 1, 2, none⟩) (v := .string ⟨#[]⟩) (by simp [go_sem])
  have ak := cell_below hb1 (a := ⟨w.heap.size, 0, none⟩) (v := .int .i64 a.k) (by simp [go_sem])
  have ai := cell_below hb1 (a := ⟨w.heap.size, 1, none⟩) (v := .int .i64 a.i) (by simp [go_sem])
  have bk := cell_below hb1 (a := ⟨w.heap.size + 1, 0, none⟩) (v := .int .i64 b.k) (by simp [go_sem])
  have bi := cell_below hb1 (a := ⟨w.heap.size + 1, 1, none⟩) (v := .int .i64 b.i) (by simp [go_sem])
  have hz0 : w.heap.size < w1.heap.size := by have := hb1.size; simp at this; omega
  have hz1 : w.heap.size + 1 < w1.heap.size := by have := hb1.size; simp at this; omega
  have hz2 : w.heap.size + 1 + 1 < w1.heap.size := by have := hb1.size; simp at this; omega
  have hy0 : w.heap.size < w1.heap.size + 1 := by omega
  have hy1 : w.heap.size + 1 < w1.heap.size + 1 := by omega
  have hx0 : w.heap.size < w1.heap.size + 1 + 1 := by omega
  have hx1 : w.heap.size + 1 < w1.heap.size + 1 + 1 := by omega
  obtain ⟨hc1, hf1⟩ := bcell hb1
  have hB := later (w := w) (by go_grown) hb1
  go_wp2_with fail
  refine wp_loop_rounds 3 ?_
  repeat any_goals (rw [rounds_succ]; go_wp2_with fail)
  refine bodyPost_ret (ret_cells3 rfl rfl (by first | with_reducible exact stored3 r0 r1 r2 | with_reducible exact cells3_alloc (stored3 r0 r1 r2) | with_reducible exact cells3_alloc (cells3_alloc (stored3 r0 r1 r2)) | with_reducible exact cells3_alloc (cells3_alloc (cells3_alloc (stored3 r0 r1 r2))) | with_reducible exact cells3_alloc (cells3_alloc (cells3_alloc (cells3_alloc (stored3 r0 r1 r2))))) (Tryd.isAgg23 _) (Tryd.sizeOf23 _)) rfl ?_
  exact Rets.mk rfl (by go_grown)

set_option maxHeartbeats 1000000 in
theorem RefArith45_nullb (a b : GV) (w : World) (hq : (a.ok && b.ok) = true)
    (h0 : (a.k != 0) = false) (h0'' : (a.k == 0) = true) (h1 : (b.k != 0) = true) (h1'' : (b.k == 0) = false) (h1' : (b.k != 2) = false) :
    Calls Tryd.prog 11 #[.string ⟨#[45]⟩, a.val, b.val] w (Rets (.tuple #[GV.none.val, .int .i64 0]) w) := by
  have hc := fun W v hv => ref_may2 a b v W hv
  rw [hq] at hc
  unfold GV.val
  clear hq
  go_enter Tryd.func11, Tryd.ntmps11
  go_wp2_with fail
  refine (hc _ _ (VS.made [a, b] (by simp) rfl rfl (by simp))).mono ?_
  rintro e w1 ⟨rfl, hb1⟩
  have r0 := cell_below hb1 (a := ⟨w.heap.size + 1 + 1, 0, none⟩) (v := .int .i64 0) (by simp [go_sem])
  have r1 := cell_below hb1 (a := ⟨w.heap.size + 1 + 1, 1, none⟩) (v := .int .i64 0) (by simp [go_sem])
  have r2 := cell_below hb1 (a := ⟨w.heap.size + 1 + 1, 2, none⟩) (v := .string ⟨#[]⟩) (by simp [go_sem])
  have ak := cell_below hb1 (a := ⟨w.heap.size, 0, none⟩) (v := .int .i64 a.k) (by simp [go_sem])
  have ai := cell_below hb1 (a := ⟨w.heap.size, 1, none⟩) (v := .int .i64 a.i) (by simp [go_sem])
  have bk := cell_below hb1 (a := ⟨w.heap.size + 1, 0, none⟩) (v := .int .i64 b.k) (by simp [go_sem])
  have bi := cell_below hb1 (a := ⟨w.heap.size + 1, 1, none⟩) (v := .int .i64 b.i) (by simp [go_sem])
  have hz0 : w.heap.size < w1.heap.size := by have := hb1.size; simp at this; omega
  have hz1 : w.heap.size + 1 < w1.heap.size := by have := hb1.size; simp at this; omega
  have hz2 : w.heap.size + 1 + 1 < w1.heap.size := by have := hb1.size; simp at this; omega
  have hy0 : w.heap.size < w1.heap.size + 1 := by omega
  have hy1 : w.heap.size + 1 < w1.heap.size + 1 := by omega
  have hx0 : w.heap.size < w1.heap.size + 1 + 1 := by omega
  have hx1 : w.heap.size + 1 < w1.heap.size + 1 + 1 := by omega
  obtain ⟨hc1, hf1⟩ := bcell hb1
  have hB := later (w := w) (by go_grown) hb1
  go_wp2_with fail
  refine wp_loop_rounds 3 ?_
  repeat any_goals (rw [rounds_succ]; go_wp2_with fail)
  refine bodyPost_ret (ret_cells3 rfl rfl (by first | with_reducible exact stored3 r0 r1 r2 | with_reducible exact cells3_alloc (stored3 r0 r1 r2) | with_reducible exact cells3_alloc (cells3_alloc (stored3 r0 r1 r2)) | with_reducible exact cells3_alloc (cells3_alloc (cells3_alloc (stored3 r0 r1 r2))) | with_reducible exact cells3_alloc (cells3_alloc (cells3_alloc (cells3_alloc (stored3 r0 r1 r2))))) (Tryd.isAgg23 _) (Tryd.sizeOf23 _)) rfl ?_
  exact Rets.mk rfl (by go_grown)

set_option maxHeartbeats 1000000 in
theorem RefArith45_nullc (a b : GV) (w : World) (hq : (a.ok && b.ok) = true)
    (h0 : (a.k != 0) = true) (h0'' : (a.k == 0) = false) (h0' : (a.k != 2) = false) (h1 : (b.k != 0) = false) (h1'' : (b.k == 0) = true) :
    Calls Tryd.prog 11 #[.string ⟨#[45]⟩, a.val, b.val] w (Rets (.tuple #[GV.none.val, .int .i64 0]) w) := by
  have hc := fun W v hv => ref_may2 a b v W hv
  rw [hq] at hc
  unfold GV.val
  clear hq
  go_enter Tryd.func11, Tryd.ntmps11
  go_wp2_with fail
  refine (hc _ _ (VS.made [a, b] (by simp) rfl rfl (by simp))).mono ?_
  rintro e w1 ⟨rfl, hb1⟩
  have r0 := cell_below hb1 (a := ⟨w.heap.size + 1 + 1, 0, none⟩) (v := .int .i64 0) (by simp [go_sem])
  have r1 := cell_below hb1 (a := ⟨w.heap.size + 1 + 1, 1, none⟩) (v := .int .i64 0) (by simp [go_sem])
  have r2 := cell_below hb1 (a := ⟨w.heap.size + 1 + 1, 2, none⟩) (v := .string ⟨#[]⟩) (by simp [go_sem])
  have ak := cell_below hb1 (a := ⟨w.heap.size, 0, none⟩) (v := .int .i64 a.k) (by simp [go_sem])
  have ai := cell_below hb1 (a := ⟨w.heap.size, 1, none⟩) (v := .int .i64 a.i) (by simp [go_sem])
  have bk := cell_below hb1 (a := ⟨w.heap.size + 1, 0, none⟩) (v := .int .i64 b.k) (by simp [go_sem])
  have bi := cell_below hb1 (a := ⟨w.heap.size + 1, 1, none⟩) (v := .int .i64 b.i) (by simp [go_sem])
  have hz0 : w.heap.size < w1.heap.size := by have := hb1.size; simp at this; omega
  have hz1 : w.heap.size + 1 < w1.heap.size := by have := hb1.size; simp at this; omega
  have hz2 : w.heap.size + 1 + 1 < w1.heap.size := by have := hb1.size; simp at this; omega
  have hy0 : w.heap.size < w1.heap.size + 1 := by omega
  have hy1 : w.heap.size + 1 < w1.heap.size + 1 := by omega
  have hx0 : w.heap.size < w1.heap.size + 1 + 1 := by omega
  have hx1 : w.heap.size + 1 < w1.heap.size + 1 + 1 := by omega
  obtain ⟨hc1, hf1⟩ := bcell hb1
  have hB := later (w := w) (by go_grown) hb1
  go_wp2_with fail
  refine wp_loop_rounds 3 ?_
  repeat any_goals (rw [rounds_succ]; go_wp2_with fail)
  refine bodyPost_ret (ret_cells3 rfl rfl (by first | with_reducible exact stored3 r0 r1 r2 | with_reducible exact cells3_alloc (stored3 r0 r1 r2) | with_reducible exact cells3_alloc (cells3_alloc (stored3 r0 r1 r2)) | with_reducible exact cells3_alloc (cells3_alloc (cells3_alloc (stored3 r0 r1 r2))) | with_reducible exact cells3_alloc (cells3_alloc (cells3_alloc (cells3_alloc (stored3 r0 r1 r2))))) (Tryd.isAgg23 _) (Tryd.sizeOf23 _)) rfl ?_
  exact Rets.mk rfl (by go_grown)

set_option maxHeartbeats 1000000 in
theorem RefArith45_err (a b : GV) (w : World) (hq : (a.ok && b.ok) = true)
    (h0 : (a.k != 0) = true) (h0'' : (a.k == 0) = false) (h0' : (a.k != 2) = false) (h1 : (b.k != 0) = true) (h1'' : (b.k == 0) = false) (h1' : (b.k != 2) = false) (n er : Int) (hr : ∀ W, Calls Tryd.prog 28 #[.string ⟨#[45]⟩, .int .i64 a.i, .int .i64 b.i] W (Rets (.tuple #[.int .i64 n, .int .i64 er]) W)) (her : (er != 0) = true) :
    Calls Tryd.prog 11 #[.string ⟨#[45]⟩, a.val, b.val] w (Rets (.tuple #[GV.none.val, .int .i64 er]) w) := by
  have hc := fun W v hv => ref_may2 a b v W hv
  rw [hq] at hc
  unfold GV.val
  clear hq
  go_enter Tryd.func11, Tryd.ntmps11
  go_wp2_with fail
  refine (hc _ _ (VS.made [a, b] (by simp) rfl rfl (by simp))).mono ?_
  rintro e w1 ⟨rfl, hb1⟩
  have r0 := cell_below hb1 (a := ⟨w.heap.size + 1 + 1, 0, none⟩) (v := .int .i64 0) (by simp [go_sem])
  have r1 := cell_below hb1 (a := ⟨w.heap.size + 1 + 1, 1, none⟩) (v := .int .i64 0) (by simp [go_sem])
  have r2 := cell_below hb1 (a := ⟨w.heap.size + 1 + 1, 2, none⟩) (v := .string ⟨#[]⟩) (by simp [go_sem])
  have ak := cell_below hb1 (a := ⟨w.heap.size, 0, none⟩) (v := .int .i64 a.k) (by simp [go_sem])
  have ai := cell_below hb1 (a := ⟨w.heap.size, 1, none⟩) (v := .int .i64 a.i) (by simp [go_sem])
  have bk := cell_below hb1 (a := ⟨w.heap.size + 1, 0, none⟩) (v := .int .i64 b.k) (by simp [go_sem])
  have bi := cell_below hb1 (a := ⟨w.heap.size + 1, 1, none⟩) (v := .int .i64 b.i) (by simp [go_sem])
  have hz0 : w.heap.size < w1.heap.size := by have := hb1.size; simp at this; omega
  have hz1 : w.heap.size + 1 < w1.heap.size := by have := hb1.size; simp at this; omega
  have hz2 : w.heap.size + 1 + 1 < w1.heap.size := by have := hb1.size; simp at this; omega
  have hy0 : w.heap.size < w1.heap.size + 1 := by omega
  have hy1 : w.heap.size + 1 < w1.heap.size + 1 := by omega
  have hx0 : w.heap.size < w1.heap.size + 1 + 1 := by omega
  have hx1 : w.heap.size + 1 < w1.heap.size + 1 + 1 := by omega
  obtain ⟨hc1, hf1⟩ := bcell hb1
  have hB := later (w := w) (by go_grown) hb1
  go_wp2_with fail
  refine wp_loop_rounds 3 ?_
  repeat any_goals (rw [rounds_succ]; go_wp2_with fail)
  refine (hr _).mono ?_
  rintro e w3 ⟨rfl, hb3⟩
  have q0 := cell_below hb3 (cell_alloc (cell_alloc (cell_alloc r0)))
  have q1 := cell_below hb3 (cell_alloc (cell_alloc (cell_alloc r1)))
  have q2 := cell_below hb3 (cell_alloc (cell_alloc (cell_alloc r2)))
  have fz := bcell hb3
  have hB3 := later (w := w) (by go_grown) hb3
  have hz32 : w.heap.size + 1 + 1 < w3.heap.size := by have := hb3.size; simp at this; omega
  have f0 : w3.frozen? ⟨w.heap.size + 1 + 1, 0, none⟩ = false := by rw [fz.2 _ _ (by simp; omega)]; simp [go_sem, *]
  have f1 : w3.frozen? ⟨w.heap.size + 1 + 1, 1, none⟩ = false := by rw [fz.2 _ _ (by simp; omega)]; simp [go_sem, *]
  have f2 : w3.frozen? ⟨w.heap.size + 1 + 1, 2, none⟩ = false := by rw [fz.2 _ _ (by simp; omega)]; simp [go_sem, *]
  clear hc1 hf1 fz r0 r1 r2 hB hz0 hz1 hz2 hy0 hy1 hx0 hx1 hc ak ai bk bi
  go_wp2
  refine bodyPost_ret (ret_cells3 rfl rfl (by first | with_reducible exact stored3 q0 q1 q2 | with_reducible exact cells3_alloc (stored3 q0 q1 q2) | with_reducible exact cells3_alloc (cells3_alloc (stored3 q0 q1 q2)) | with_reducible exact cells3_alloc (cells3_alloc (cells3_alloc (stored3 q0 q1 q2))) | with_reducible exact cells3_alloc (cells3_alloc (cells3_alloc (cells3_alloc (stored3 q0 q1 q2))))) (Tryd.isAgg23 _) (Tryd.sizeOf23 _)) rfl ?_
  exact Rets.mk rfl (by go_grown)

set_option maxHeartbeats 1000000 in
theorem RefArith45_ok (a b : GV) (w : World) (hq : (a.ok && b.ok) = true)
    (h0 : (a.k != 0) = true) (h0'' : (a.k == 0) = false) (h0' : (a.k != 2) = false) (h1 : (b.k != 0) = true) (h1'' : (b.k == 0) = false) (h1' : (b.k != 2) = false) (n : Int) (hr : ∀ W, Calls Tryd.prog 28 #[.string ⟨#[45]⟩, .int .i64 a.i, .int .i64 b.i] W (Rets (.tuple #[.int .i64 n, .int .i64 0]) W)) :
    Calls Tryd.prog 11 #[.string ⟨#[45]⟩, a.val, b.val] w (Rets (.tuple #[(GV.num n).val, .int .i64 0]) w) := by
  have hc := fun W v hv => ref_may2 a b v W hv
  rw [hq] at hc
  have hnum := ref_Int1 n
  unfold GV.val
  clear hq
  go_enter Tryd.func11, Tryd.ntmps11
  go_wp2_with fail
  refine (hc _ _ (VS.made [a, b] (by simp) rfl rfl (by simp))).mono ?_
  rintro e w1 ⟨rfl, hb1⟩
  have r0 := cell_below hb1 (a := ⟨w.heap.size + 1 + 1, 0, none⟩) (v := .int .i64 0) (by simp [go_sem])
  have r1 := cell_below hb1 (a := ⟨w.heap.size + 1 + 1, 1, none⟩) (v := .int .i64 0) (by simp [go_sem])
  have r2 := cell_below hb1 (a := ⟨w.heap.size + 1 + 1, 2, none⟩) (v := .string ⟨#[]⟩) (by simp [go_sem])
  have ak := cell_below hb1 (a := ⟨w.heap.size, 0, none⟩) (v := .int .i64 a.k) (by simp [go_sem])
  have ai := cell_below hb1 (a := ⟨w.heap.size, 1, none⟩) (v := .int .i64 a.i) (by simp [go_sem])
  have bk := cell_below hb1 (a := ⟨w.heap.size + 1, 0, none⟩) (v := .int .i64 b.k) (by simp [go_sem])
  have bi := cell_below hb1 (a := ⟨w.heap.size + 1, 1, none⟩) (v := .int .i64 b.i) (by simp [go_sem])
  have hz0 : w.heap.size < w1.heap.size := by have := hb1.size; simp at this; omega
  have hz1 : w.heap.size + 1 < w1.heap.size := by have := hb1.size; simp at this; omega
  have hz2 : w.heap.size + 1 + 1 < w1.heap.size := by have := hb1.size; simp at this; omega
  have hy0 : w.heap.size < w1.heap.size + 1 := by omega
  have hy1 : w.heap.size + 1 < w1.heap.size + 1 := by omega
  have hx0 : w.heap.size < w1.heap.size + 1 + 1 := by omega
  have hx1 : w.heap.size + 1 < w1.heap.size + 1 + 1 := by omega
  obtain ⟨hc1, hf1⟩ := bcell hb1
  have hB := later (w := w) (by go_grown) hb1
  go_wp2_with fail
  refine wp_loop_rounds 3 ?_
  repeat any_goals (rw [rounds_succ]; go_wp2_with fail)
  refine (hr _).mono ?_
  rintro e w3 ⟨rfl, hb3⟩
  have q0 := cell_below hb3 (cell_alloc (cell_alloc (cell_alloc r0)))
  have q1 := cell_below hb3 (cell_alloc (cell_alloc (cell_alloc r1)))
  have q2 := cell_below hb3 (cell_alloc (cell_alloc (cell_alloc r2)))
  have fz := bcell hb3
  have hB3 := later (w := w) (by go_grown) hb3
  have hz32 : w.heap.size + 1 + 1 < w3.heap.size := by have := hb3.size; simp at this; omega
  have f0 : w3.frozen? ⟨w.heap.size + 1 + 1, 0, none⟩ = false := by rw [fz.2 _ _ (by simp; omega)]; simp [go_sem, *]
  have f1 : w3.frozen? ⟨w.heap.size + 1 + 1, 1, none⟩ = false := by rw [fz.2 _ _ (by simp; omega)]; simp [go_sem, *]
  have f2 : w3.frozen? ⟨w.heap.size + 1 + 1, 2, none⟩ = false := by rw [fz.2 _ _ (by simp; omega)]; simp [go_sem, *]
  clear hc1 hf1 fz r0 r1 r2 hB hz0 hz1 hz2 hy0 hy1 hx0 hx1 hc ak ai bk bi
  go_wp2_with fail
  refine (hnum _).mono ?_
  rintro e w5 ⟨rfl, hb5⟩
  have o0 := cell_below hb5 q0
  have o1 := cell_below hb5 q1
  have o2 := cell_below hb5 q2
  have e0 : w5.frozen? ⟨w.heap.size + 1 + 1, 0, none⟩ = false := by rw [(bcell hb5).2 _ _ hz32]; exact f0
  have e1 : w5.frozen? ⟨w.heap.size + 1 + 1, 1, none⟩ = false := by rw [(bcell hb5).2 _ _ hz32]; exact f1
  have e2 : w5.frozen? ⟨w.heap.size + 1 + 1, 2, none⟩ = false := by rw [(bcell hb5).2 _ _ hz32]; exact f2
  have hB5 := later hB3 hb5
  clear q0 q1 q2 f0 f1 f2 hB3 hz32
  unfold GV.val GV.num
  go_wp2
  refine bodyPost_ret (ret_cells3 rfl rfl (by first | with_reducible exact stored3 o0 o1 o2 | with_reducible exact cells3_alloc (stored3 o0 o1 o2) | with_reducible exact cells3_alloc (cells3_alloc (stored3 o0 o1 o2)) | with_reducible exact cells3_alloc (cells3_alloc (cells3_alloc (stored3 o0 o1 o2))) | with_reducible exact cells3_alloc (cells3_alloc (cells3_alloc (cells3_alloc (stored3 o0 o1 o2))))) (Tryd.isAgg23 _) (Tryd.sizeOf23 _)) rfl ?_
  exact Rets.mk rfl (by go_grown)

theorem RefArith45 (a b : GV) (w : World) (ha : I64 a.i) (hb : I64 b.i) (hq : (a.ok && b.ok) = true) :
    Calls Tryd.prog 11 #[.string ⟨#[45]⟩, a.val, b.val] w (Rets (.tuple #[(arithS [45] a b).1.val, .int .i64 (arithS [45] a b).2]) w) := by
  unfold arithS
  rw [hq, show signs.contains [45] = true from rfl]
  simp only [Bool.not_true, Bool.false_eq_true, if_false]
  have hr := fun W => ref_arith_sub a.i b.i W ha hb
  cases g0 : (a.k == 0) with
  | true =>
    have h0 : (a.k != 0) = false := by rw [bne, g0]; rfl
    rw [h0]
    cases g1 : (b.k == 0) with
    | true =>
      have h1 : (b.k != 0) = false := by rw [bne, g1]; rfl
      rw [h1]
      exact RefArith45_nulla a b w hq h0 g0 h1 g1
    | false =>
      have h1 : (b.k != 0) = true := by rw [bne, g1]; rfl
      rw [h1]
      cases h3 : (b.k != 2) with
      | true => exact RefArith45_kind1a a b w hq h0 g0 h1 h3
      | false => exact RefArith45_nullb a b w hq h0 g0 h1 g1 h3
  | false =>
    have h0 : (a.k != 0) = true := by rw [bne, g0]; rfl
    rw [h0]
    cases h2 : (a.k != 2) with
    | true => exact RefArith45_kind0 a b w hq h0 h2
    | false =>
      cases g1 : (b.k == 0) with
      | true =>
        have h1 : (b.k != 0) = false := by rw [bne, g1]; rfl
        rw [h1]
        exact RefArith45_nullc a b w hq h0 g0 h2 h1 g1
      | false =>
        have h1 : (b.k != 0) = true := by rw [bne, g1]; rfl
        rw [h1]
        cases h3 : (b.k != 2) with
        | true => exact RefArith45_kind1b a b w hq h0 g0 h2 h1 h3
        | false =>
          cases he : ((reckonS [45] a.i b.i).2 != 0) with
          | true => exact RefArith45_err a b w hq h0 g0 h2 h1 g1 h3 _ _ hr he
          | false =>
            have he' : (reckonS [45] a.i b.i).2 = 0 := by simpa using he
            rw [he'] at hr
            exact RefArith45_ok a b w hq h0 g0 h2 h1 g1 h3 _ hr

end Go.Proofs.YtddnkjeogidfcaaDoor
