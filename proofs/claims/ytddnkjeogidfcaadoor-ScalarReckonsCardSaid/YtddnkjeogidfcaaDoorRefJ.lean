/-  The document's Join. -/
import Derived.Test.YtddnkjeogidfcaaDoorRefA
import Derived.Test.YtddnkjeogidfcaaDoorJoin
namespace Go.Proofs.YtddnkjeogidfcaaDoor
open Go.RowKit Go.Shelf Go

set_option maxHeartbeats 1000000 in
theorem RefJoin_bad (a b : GV) (w : World) (hq : (a.ok && b.ok) = false)
     :
    Calls Tryd.prog 15 #[a.val, b.val] w (Rets (.tuple #[GV.none.val, .int .i64 1]) w) := by
  have hc := fun W v hv => ref_may2 a b v W hv
  rw [hq] at hc
  unfold GV.val
  clear hq
  go_enter Tryd.func15, Tryd.ntmps15
  go_wp2_with fail
  refine (hc _ _ (VS.made [a, b] (by simp) rfl rfl (by simp))).mono ?_
  rintro e w1 ⟨rfl, hb1⟩
  have r0 := cell_below hb1 (a := ⟨w.heap.size + 1 + 1, 0, none⟩) (v := .int .i64 0) (by simp [go_sem])
  have r1 := cell_below hb1 (a := ⟨w.heap.size + 1 + 1, 1, none⟩) (v := .int .i64 0) (by simp [go_sem])
  have r2 := cell_below hb1 (a := ⟨w.heap.size + 1 + 1, 2, none⟩) (v := .string ⟨#[]⟩) (by simp [go_sem])
  have ak := cell_below hb1 (a := ⟨w.heap.size, 0, none⟩) (v := .int .i64 a.k) (by simp [go_sem])
  have ai := cell_below hb1 (a := ⟨w.heap.size, 1, none⟩) (v := .int .i64 a.i) (by simp [go_sem])
  have asx := cell_below hb1 (a := ⟨w.heap.size, 2, none⟩) (v := .string a.s) (by simp [go_sem])
  have bk := cell_below hb1 (a := ⟨w.heap.size + 1, 0, none⟩) (v := .int .i64 b.k) (by simp [go_sem])
  have bi := cell_below hb1 (a := ⟨w.heap.size + 1, 1, none⟩) (v := .int .i64 b.i) (by simp [go_sem])
  have bs := cell_below hb1 (a := ⟨w.heap.size + 1, 2, none⟩) (v := .string b.s) (by simp [go_sem])
  have hz0 : w.heap.size < w1.heap.size := by have := hb1.size; simp at this; omega
  have hz1 : w.heap.size + 1 < w1.heap.size := by have := hb1.size; simp at this; omega
  have hz2 : w.heap.size + 1 + 1 < w1.heap.size := by have := hb1.size; simp at this; omega
  have hy0 : w.heap.size < w1.heap.size + 1 := by omega
  have hy1 : w.heap.size + 1 < w1.heap.size + 1 := by omega
  have hx0 : w.heap.size < w1.heap.size + 1 + 1 := by omega
  have hx1 : w.heap.size + 1 < w1.heap.size + 1 + 1 := by omega
  obtain ⟨hc1, hf1⟩ := bcell hb1
  have hB := later (w := w) (by go_grown) hb1
  go_wp2_with fail
  refine bodyPost_ret (ret_cells3 rfl rfl (by first | with_reducible exact stored3 r0 r1 r2 | with_reducible exact cells3_alloc (stored3 r0 r1 r2) | with_reducible exact cells3_alloc (cells3_alloc (stored3 r0 r1 r2)) | with_reducible exact cells3_alloc (cells3_alloc (cells3_alloc (stored3 r0 r1 r2))) | with_reducible exact cells3_alloc (cells3_alloc (cells3_alloc (cells3_alloc (stored3 r0 r1 r2))))) (Tryd.isAgg23 _) (Tryd.sizeOf23 _)) rfl ?_
  exact Rets.mk rfl (by go_grown)

set_option maxHeartbeats 1000000 in
theorem RefJoin_a1 (a b : GV) (w : World) (hq : (a.ok && b.ok) = true)
    (a1 : (a.k == 1) = true) :
    Calls Tryd.prog 15 #[a.val, b.val] w (Rets (.tuple #[GV.none.val, .int .i64 20]) w) := by
  have hc := fun W v hv => ref_may2 a b v W hv
  rw [hq] at hc
  unfold GV.val
  clear hq
  go_enter Tryd.func15, Tryd.ntmps15
  go_wp2_with fail
  refine (hc _ _ (VS.made [a, b] (by simp) rfl rfl (by simp))).mono ?_
  rintro e w1 ⟨rfl, hb1⟩
  have r0 := cell_below hb1 (a := ⟨w.heap.size + 1 + 1, 0, none⟩) (v := .int .i64 0) (by simp [go_sem])
  have r1 := cell_below hb1 (a := ⟨w.heap.size + 1 + 1, 1, none⟩) (v := .int .i64 0) (by simp [go_sem])
  have r2 := cell_below hb1 (a := ⟨w.heap.size + 1 + 1, 2, none⟩) (v := .string ⟨#[]⟩) (by simp [go_sem])
  have ak := cell_below hb1 (a := ⟨w.heap.size, 0, none⟩) (v := .int .i64 a.k) (by simp [go_sem])
  have ai := cell_below hb1 (a := ⟨w.heap.size, 1, none⟩) (v := .int .i64 a.i) (by simp [go_sem])
  have asx := cell_below hb1 (a := ⟨w.heap.size, 2, none⟩) (v := .string a.s) (by simp [go_sem])
  have bk := cell_below hb1 (a := ⟨w.heap.size + 1, 0, none⟩) (v := .int .i64 b.k) (by simp [go_sem])
  have bi := cell_below hb1 (a := ⟨w.heap.size + 1, 1, none⟩) (v := .int .i64 b.i) (by simp [go_sem])
  have bs := cell_below hb1 (a := ⟨w.heap.size + 1, 2, none⟩) (v := .string b.s) (by simp [go_sem])
  have hz0 : w.heap.size < w1.heap.size := by have := hb1.size; simp at this; omega
  have hz1 : w.heap.size + 1 < w1.heap.size := by have := hb1.size; simp at this; omega
  have hz2 : w.heap.size + 1 + 1 < w1.heap.size := by have := hb1.size; simp at this; omega
  have hy0 : w.heap.size < w1.heap.size + 1 := by omega
  have hy1 : w.heap.size + 1 < w1.heap.size + 1 := by omega
  have hx0 : w.heap.size < w1.heap.size + 1 + 1 := by omega
  have hx1 : w.heap.size + 1 < w1.heap.size + 1 + 1 := by omega
  obtain ⟨hc1, hf1⟩ := bcell hb1
  have hB := later (w := w) (by go_grown) hb1
  go_wp2_with fail
  refine wp_loop_rounds 3 ?_
  repeat any_goals (rw [rounds_succ]; go_wp2_with fail)
  refine bodyPost_ret (ret_cells3 rfl rfl (by first | with_reducible exact stored3 r0 r1 r2 | with_reducible exact cells3_alloc (stored3 r0 r1 r2) | with_reducible exact cells3_alloc (cells3_alloc (stored3 r0 r1 r2)) | with_reducible exact cells3_alloc (cells3_alloc (cells3_alloc (stored3 r0 r1 r2))) | with_reducible exact cells3_alloc (cells3_alloc (cells3_alloc (cells3_alloc (stored3 r0 r1 r2))))) (Tryd.isAgg23 _) (Tryd.sizeOf23 _)) rfl ?_
  exact Rets.mk rfl (by go_grown)

set_option maxHeartbeats 1000000 in
theorem RefJoin_a2 (a b : GV) (w : World) (hq : (a.ok && b.ok) = true)
    (a1 : (a.k == 1) = false) (a2 : (a.k == 2) = true) :
    Calls Tryd.prog 15 #[a.val, b.val] w (Rets (.tuple #[GV.none.val, .int .i64 20]) w) := by
  have hc := fun W v hv => ref_may2 a b v W hv
  rw [hq] at hc
  unfold GV.val
  clear hq
  go_enter Tryd.func15, Tryd.ntmps15
  go_wp2_with fail
  refine (hc _ _ (VS.made [a, b] (by simp) rfl rfl (by simp))).mono ?_
  rintro e w1 ⟨rfl, hb1⟩
  have r0 := cell_below hb1 (a := ⟨w.heap.size + 1 + 1, 0, none⟩) (v := .int .i64 0) (by simp [go_sem])
  have r1 := cell_below hb1 (a := ⟨w.heap.size + 1 + 1, 1, none⟩) (v := .int .i64 0) (by simp [go_sem])
  have r2 := cell_below hb1 (a := ⟨w.heap.size + 1 + 1, 2, none⟩) (v := .string ⟨#[]⟩) (by simp [go_sem])
  have ak := cell_below hb1 (a := ⟨w.heap.size, 0, none⟩) (v := .int .i64 a.k) (by simp [go_sem])
  have ai := cell_below hb1 (a := ⟨w.heap.size, 1, none⟩) (v := .int .i64 a.i) (by simp [go_sem])
  have asx := cell_below hb1 (a := ⟨w.heap.size, 2, none⟩) (v := .string a.s) (by simp [go_sem])
  have bk := cell_below hb1 (a := ⟨w.heap.size + 1, 0, none⟩) (v := .int .i64 b.k) (by simp [go_sem])
  have bi := cell_below hb1 (a := ⟨w.heap.size + 1, 1, none⟩) (v := .int .i64 b.i) (by simp [go_sem])
  have bs := cell_below hb1 (a := ⟨w.heap.size + 1, 2, none⟩) (v := .string b.s) (by simp [go_sem])
  have hz0 : w.heap.size < w1.heap.size := by have := hb1.size; simp at this; omega
  have hz1 : w.heap.size + 1 < w1.heap.size := by have := hb1.size; simp at this; omega
  have hz2 : w.heap.size + 1 + 1 < w1.heap.size := by have := hb1.size; simp at this; omega
  have hy0 : w.heap.size < w1.heap.size + 1 := by omega
  have hy1 : w.heap.size + 1 < w1.heap.size + 1 := by omega
  have hx0 : w.heap.size < w1.heap.size + 1 + 1 := by omega
  have hx1 : w.heap.size + 1 < w1.heap.size + 1 + 1 := by omega
  obtain ⟨hc1, hf1⟩ := bcell hb1
  have hB := later (w := w) (by go_grown) hb1
  go_wp2_with fail
  refine wp_loop_rounds 3 ?_
  repeat any_goals (rw [rounds_succ]; go_wp2_with fail)
  refine bodyPost_ret (ret_cells3 rfl rfl (by first | with_reducible exact stored3 r0 r1 r2 | with_reducible exact cells3_alloc (stored3 r0 r1 r2) | with_reducible exact cells3_alloc (cells3_alloc (stored3 r0 r1 r2)) | with_reducible exact cells3_alloc (cells3_alloc (cells3_alloc (stored3 r0 r1 r2))) | with_reducible exact cells3_alloc (cells3_alloc (cells3_alloc (cells3_alloc (stored3 r0 r1 r2))))) (Tryd.isAgg23 _) (Tryd.sizeOf23 _)) rfl ?_
  exact Rets.mk rfl (by go_grown)

set_option maxHeartbeats 1000000 in
theorem RefJoin_b1 (a b : GV) (w : World) (hq : (a.ok && b.ok) = true)
    (a1 : (a.k == 1) = false) (a2 : (a.k == 2) = false) (b1 : (b.k == 1) = true) :
    Calls Tryd.prog 15 #[a.val, b.val] w (Rets (.tuple #[GV.none.val, .int .i64 20]) w) := by
  have hc := fun W v hv => ref_may2 a b v W hv
  rw [hq] at hc
  unfold GV.val
  clear hq
  go_enter Tryd.func15, Tryd.ntmps15
  go_wp2_with fail
  refine (hc _ _ (VS.made [a, b] (by simp) rfl rfl (by simp))).mono ?_
  rintro e w1 ⟨rfl, hb1⟩
  have r0 := cell_below hb1 (a := ⟨w.heap.size + 1 + 1, 0, none⟩) (v := .int .i64 0) (by simp [go_sem])
  have r1 := cell_below hb1 (a := ⟨w.heap.size + 1 + 1, 1, none⟩) (v := .int .i64 0) (by simp [go_sem])
  have r2 := cell_below hb1 (a := ⟨w.heap.size + 1 + 1, 2, none⟩) (v := .string ⟨#[]⟩) (by simp [go_sem])
  have ak := cell_below hb1 (a := ⟨w.heap.size, 0, none⟩) (v := .int .i64 a.k) (by simp [go_sem])
  have ai := cell_below hb1 (a := ⟨w.heap.size, 1, none⟩) (v := .int .i64 a.i) (by simp [go_sem])
  have asx := cell_below hb1 (a := ⟨w.heap.size, 2, none⟩) (v := .string a.s) (by simp [go_sem])
  have bk := cell_below hb1 (a := ⟨w.heap.size + 1, 0, none⟩) (v := .int .i64 b.k) (by simp [go_sem])
  have bi := cell_below hb1 (a := ⟨w.heap.size + 1, 1, none⟩) (v := .int .i64 b.i) (by simp [go_sem])
  have bs := cell_below hb1 (a := ⟨w.heap.size + 1, 2, none⟩) (v := .string b.s) (by simp [go_sem])
  have hz0 : w.heap.size < w1.heap.size := by have := hb1.size; simp at this; omega
  have hz1 : w.heap.size + 1 < w1.heap.size := by have := hb1.size; simp at this; omega
  have hz2 : w.heap.size + 1 + 1 < w1.heap.size := by have := hb1.size; simp at this; omega
  have hy0 : w.heap.size < w1.heap.size + 1 := by omega
  have hy1 : w.heap.size + 1 < w1.heap.size + 1 := by omega
  have hx0 : w.heap.size < w1.heap.size + 1 + 1 := by omega
  have hx1 : w.heap.size + 1 < w1.heap.size + 1 + 1 := by omega
  obtain ⟨hc1, hf1⟩ := bcell hb1
  have hB := later (w := w) (by go_grown) hb1
  go_wp2_with fail
  refine wp_loop_rounds 3 ?_
  repeat any_goals (rw [rounds_succ]; go_wp2_with fail)
  refine bodyPost_ret (ret_cells3 rfl rfl (by first | with_reducible exact stored3 r0 r1 r2 | with_reducible exact cells3_alloc (stored3 r0 r1 r2) | with_reducible exact cells3_alloc (cells3_alloc (stored3 r0 r1 r2)) | with_reducible exact cells3_alloc (cells3_alloc (cells3_alloc (stored3 r0 r1 r2))) | with_reducible exact cells3_alloc (cells3_alloc (cells3_alloc (cells3_alloc (stored3 r0 r1 r2))))) (Tryd.isAgg23 _) (Tryd.sizeOf23 _)) rfl ?_
  exact Rets.mk rfl (by go_grown)

set_option maxHeartbeats 1000000 in
theorem RefJoin_b2 (a b : GV) (w : World) (hq : (a.ok && b.ok) = true)
    (a1 : (a.k == 1) = false) (a2 : (a.k == 2) = false) (b1 : (b.k == 1) = false) (b2 : (b.k == 2) = true) :
    Calls Tryd.prog 15 #[a.val, b.val] w (Rets (.tuple #[GV.none.val, .int .i64 20]) w) := by
  have hc := fun W v hv => ref_may2 a b v W hv
  rw [hq] at hc
  unfold GV.val
  clear hq
  go_enter Tryd.func15, Tryd.ntmps15
  go_wp2_with fail
  refine (hc _ _ (VS.made [a, b] (by simp) rfl rfl (by simp))).mono ?_
  rintro e w1 ⟨rfl, hb1⟩
  have r0 := cell_below hb1 (a := ⟨w.heap.size + 1 + 1, 0, none⟩) (v := .int .i64 0) (by simp [go_sem])
  have r1 := cell_below hb1 (a := ⟨w.heap.size + 1 + 1, 1, none⟩) (v := .int .i64 0) (by simp [go_sem])
  have r2 := cell_below hb1 (a := ⟨w.heap.size + 1 + 1, 2, none⟩) (v := .string ⟨#[]⟩) (by simp [go_sem])
  have ak := cell_below hb1 (a := ⟨w.heap.size, 0, none⟩) (v := .int .i64 a.k) (by simp [go_sem])
  have ai := cell_below hb1 (a := ⟨w.heap.size, 1, none⟩) (v := .int .i64 a.i) (by simp [go_sem])
  have asx := cell_below hb1 (a := ⟨w.heap.size, 2, none⟩) (v := .string a.s) (by simp [go_sem])
  have bk := cell_below hb1 (a := ⟨w.heap.size + 1, 0, none⟩) (v := .int .i64 b.k) (by simp [go_sem])
  have bi := cell_below hb1 (a := ⟨w.heap.size + 1, 1, none⟩) (v := .int .i64 b.i) (by simp [go_sem])
  have bs := cell_below hb1 (a := ⟨w.heap.size + 1, 2, none⟩) (v := .string b.s) (by simp [go_sem])
  have hz0 : w.heap.size < w1.heap.size := by have := hb1.size; simp at this; omega
  have hz1 : w.heap.size + 1 < w1.heap.size := by have := hb1.size; simp at this; omega
  have hz2 : w.heap.size + 1 + 1 < w1.heap.size := by have := hb1.size; simp at this; omega
  have hy0 : w.heap.size < w1.heap.size + 1 := by omega
  have hy1 : w.heap.size + 1 < w1.heap.size + 1 := by omega
  have hx0 : w.heap.size < w1.heap.size + 1 + 1 := by omega
  have hx1 : w.heap.size + 1 < w1.heap.size + 1 + 1 := by omega
  obtain ⟨hc1, hf1⟩ := bcell hb1
  have hB := later (w := w) (by go_grown) hb1
  go_wp2_with fail
  refine wp_loop_rounds 3 ?_
  repeat any_goals (rw [rounds_succ]; go_wp2_with fail)
  refine bodyPost_ret (ret_cells3 rfl rfl (by first | with_reducible exact stored3 r0 r1 r2 | with_reducible exact cells3_alloc (stored3 r0 r1 r2) | with_reducible exact cells3_alloc (cells3_alloc (stored3 r0 r1 r2)) | with_reducible exact cells3_alloc (cells3_alloc (cells3_alloc (stored3 r0 r1 r2))) | with_reducible exact cells3_alloc (cells3_alloc (cells3_alloc (cells3_alloc (stored3 r0 r1 r2))))) (Tryd.isAgg23 _) (Tryd.sizeOf23 _)) rfl ?_
  exact Rets.mk rfl (by go_grown)

set_option maxHeartbeats 1000000 in
theorem RefJoin_na (a b : GV) (w : World) (hq : (a.ok && b.ok) = true)
    (a1 : (a.k == 1) = false) (a2 : (a.k == 2) = false) (b1 : (b.k == 1) = false) (b2 : (b.k == 2) = false) (a0 : (a.k == 0) = true) :
    Calls Tryd.prog 15 #[a.val, b.val] w (Rets (.tuple #[GV.none.val, .int .i64 0]) w) := by
  have hc := fun W v hv => ref_may2 a b v W hv
  rw [hq] at hc
  unfold GV.val
  clear hq
  go_enter Tryd.func15, Tryd.ntmps15
  go_wp2_with fail
  refine (hc _ _ (VS.made [a, b] (by simp) rfl rfl (by simp))).mono ?_
  rintro e w1 ⟨rfl, hb1⟩
  have r0 := cell_below hb1 (a := ⟨w.heap.size + 1 + 1, 0, none⟩) (v := .int .i64 0) (by simp [go_sem])
  have r1 := cell_below hb1 (a := ⟨w.heap.size + 1 + 1, 1, none⟩) (v := .int .i64 0) (by simp [go_sem])
  have r2 := cell_below hb1 (a := ⟨w.heap.size + 1 + 1, 2, none⟩) (v := .string ⟨#[]⟩) (by simp [go_sem])
  have ak := cell_below hb1 (a := ⟨w.heap.size, 0, none⟩) (v := .int .i64 a.k) (by simp [go_sem])
  have ai := cell_below hb1 (a := ⟨w.heap.size, 1, none⟩) (v := .int .i64 a.i) (by simp [go_sem])
  have asx := cell_below hb1 (a := ⟨w.heap.size, 2, none⟩) (v := .string a.s) (by simp [go_sem])
  have bk := cell_below hb1 (a := ⟨w.heap.size + 1, 0, none⟩) (v := .int .i64 b.k) (by simp [go_sem])
  have bi := cell_below hb1 (a := ⟨w.heap.size + 1, 1, none⟩) (v := .int .i64 b.i) (by simp [go_sem])
  have bs := cell_below hb1 (a := ⟨w.heap.size + 1, 2, none⟩) (v := .string b.s) (by simp [go_sem])
  have hz0 : w.heap.size < w1.heap.size := by have := hb1.size; simp at this; omega
  have hz1 : w.heap.size + 1 < w1.heap.size := by have := hb1.size; simp at this; omega
  have hz2 : w.heap.size + 1 + 1 < w1.heap.size := by have := hb1.size; simp at this; omega
  have hy0 : w.heap.size < w1.heap.size + 1 := by omega
  have hy1 : w.heap.size + 1 < w1.heap.size + 1 := by omega
  have hx0 : w.heap.size < w1.heap.size + 1 + 1 := by omega
  have hx1 : w.heap.size + 1 < w1.heap.size + 1 + 1 := by omega
  obtain ⟨hc1, hf1⟩ := bcell hb1
  have hB := later (w := w) (by go_grown) hb1
  go_wp2_with fail
  refine wp_loop_rounds 3 ?_
  repeat any_goals (rw [rounds_succ]; go_wp2_with fail)
  refine bodyPost_ret (ret_cells3 rfl rfl (by first | with_reducible exact stored3 r0 r1 r2 | with_reducible exact cells3_alloc (stored3 r0 r1 r2) | with_reducible exact cells3_alloc (cells3_alloc (stored3 r0 r1 r2)) | with_reducible exact cells3_alloc (cells3_alloc (cells3_alloc (stored3 r0 r1 r2))) | with_reducible exact cells3_alloc (cells3_alloc (cells3_alloc (cells3_alloc (stored3 r0 r1 r2))))) (Tryd.isAgg23 _) (Tryd.sizeOf23 _)) rfl ?_
  exact Rets.mk rfl (by go_grown)

set_option maxHeartbeats 1000000 in
theorem RefJoin_nb (a b : GV) (w : World) (hq : (a.ok && b.ok) = true)
    (a1 : (a.k == 1) = false) (a2 : (a.k == 2) = false) (b1 : (b.k == 1) = false) (b2 : (b.k == 2) = false) (a0 : (a.k == 0) = false) (b0 : (b.k == 0) = true) :
    Calls Tryd.prog 15 #[a.val, b.val] w (Rets (.tuple #[GV.none.val, .int .i64 0]) w) := by
  have hc := fun W v hv => ref_may2 a b v W hv
  rw [hq] at hc
  unfold GV.val
  clear hq
  go_enter Tryd.func15, Tryd.ntmps15
  go_wp2_with fail
  refine (hc _ _ (VS.made [a, b] (by simp) rfl rfl (by simp))).mono ?_
  rintro e w1 ⟨rfl, hb1⟩
  have r0 := cell_below hb1 (a := ⟨w.heap.size + 1 + 1, 0, none⟩) (v := .int .i64 0) (by simp [go_sem])
  have r1 := cell_below hb1 (a := ⟨w.heap.size + 1 + 1, 1, none⟩) (v := .int .i64 0) (by simp [go_sem])
  have r2 := cell_below hb1 (a := ⟨w.heap.size + 1 + 1, 2, none⟩) (v := .string ⟨#[]⟩) (by simp [go_sem])
  have ak := cell_below hb1 (a := ⟨w.heap.size, 0, none⟩) (v := .int .i64 a.k) (by simp [go_sem])
  have ai := cell_below hb1 (a := ⟨w.heap.size, 1, none⟩) (v := .int .i64 a.i) (by simp [go_sem])
  have asx := cell_below hb1 (a := ⟨w.heap.size, 2, none⟩) (v := .string a.s) (by simp [go_sem])
  have bk := cell_below hb1 (a := ⟨w.heap.size + 1, 0, none⟩) (v := .int .i64 b.k) (by simp [go_sem])
  have bi := cell_below hb1 (a := ⟨w.heap.size + 1, 1, none⟩) (v := .int .i64 b.i) (by simp [go_sem])
  have bs := cell_below hb1 (a := ⟨w.heap.size + 1, 2, none⟩) (v := .string b.s) (by simp [go_sem])
  have hz0 : w.heap.size < w1.heap.size := by have := hb1.size; simp at this; omega
  have hz1 : w.heap.size + 1 < w1.heap.size := by have := hb1.size; simp at this; omega
  have hz2 : w.heap.size + 1 + 1 < w1.heap.size := by have := hb1.size; simp at this; omega
  have hy0 : w.heap.size < w1.heap.size + 1 := by omega
  have hy1 : w.heap.size + 1 < w1.heap.size + 1 := by omega
  have hx0 : w.heap.size < w1.heap.size + 1 + 1 := by omega
  have hx1 : w.heap.size + 1 < w1.heap.size + 1 + 1 := by omega
  obtain ⟨hc1, hf1⟩ := bcell hb1
  have hB := later (w := w) (by go_grown) hb1
  go_wp2_with fail
  refine wp_loop_rounds 3 ?_
  repeat any_goals (rw [rounds_succ]; go_wp2_with fail)
  refine bodyPost_ret (ret_cells3 rfl rfl (by first | with_reducible exact stored3 r0 r1 r2 | with_reducible exact cells3_alloc (stored3 r0 r1 r2) | with_reducible exact cells3_alloc (cells3_alloc (stored3 r0 r1 r2)) | with_reducible exact cells3_alloc (cells3_alloc (cells3_alloc (stored3 r0 r1 r2))) | with_reducible exact cells3_alloc (cells3_alloc (cells3_alloc (cells3_alloc (stored3 r0 r1 r2))))) (Tryd.isAgg23 _) (Tryd.sizeOf23 _)) rfl ?_
  exact Rets.mk rfl (by go_grown)

set_option maxHeartbeats 1000000 in
theorem RefJoin_kind (a b : GV) (w : World) (hq : (a.ok && b.ok) = true)
    (a1 : (a.k == 1) = false) (a2 : (a.k == 2) = false) (b1 : (b.k == 1) = false) (b2 : (b.k == 2) = false) (a0 : (a.k == 0) = false) (b0 : (b.k == 0) = false) (hk : (a.k != b.k) = true) :
    Calls Tryd.prog 15 #[a.val, b.val] w (Rets (.tuple #[GV.none.val, .int .i64 20]) w) := by
  have hc := fun W v hv => ref_may2 a b v W hv
  rw [hq] at hc
  unfold GV.val
  clear hq
  go_enter Tryd.func15, Tryd.ntmps15
  go_wp2_with fail
  refine (hc _ _ (VS.made [a, b] (by simp) rfl rfl (by simp))).mono ?_
  rintro e w1 ⟨rfl, hb1⟩
  have r0 := cell_below hb1 (a := ⟨w.heap.size + 1 + 1, 0, none⟩) (v := .int .i64 0) (by simp [go_sem])
  have r1 := cell_below hb1 (a := ⟨w.heap.size + 1 + 1, 1, none⟩) (v := .int .i64 0) (by simp [go_sem])
  have r2 := cell_below hb1 (a := ⟨w.heap.size + 1 + 1, 2, none⟩) (v := .string ⟨#[]⟩) (by simp [go_sem])
  have ak := cell_below hb1 (a := ⟨w.heap.size, 0, none⟩) (v := .int .i64 a.k) (by simp [go_sem])
  have ai := cell_below hb1 (a := ⟨w.heap.size, 1, none⟩) (v := .int .i64 a.i) (by simp [go_sem])
  have asx := cell_below hb1 (a := ⟨w.heap.size, 2, none⟩) (v := .string a.s) (by simp [go_sem])
  have bk := cell_below hb1 (a := ⟨w.heap.size + 1, 0, none⟩) (v := .int .i64 b.k) (by simp [go_sem])
  have bi := cell_below hb1 (a := ⟨w.heap.size + 1, 1, none⟩) (v := .int .i64 b.i) (by simp [go_sem])
  have bs := cell_below hb1 (a := ⟨w.heap.size + 1, 2, none⟩) (v := .string b.s) (by simp [go_sem])
  have hz0 : w.heap.size < w1.heap.size := by have := hb1.size; simp at this; omega
  have hz1 : w.heap.size + 1 < w1.heap.size := by have := hb1.size; simp at this; omega
  have hz2 : w.heap.size + 1 + 1 < w1.heap.size := by have := hb1.size; simp at this; omega
  have hy0 : w.heap.size < w1.heap.size + 1 := by omega
  have hy1 : w.heap.size + 1 < w1.heap.size + 1 := by omega
  have hx0 : w.heap.size < w1.heap.size + 1 + 1 := by omega
  have hx1 : w.heap.size + 1 < w1.heap.size + 1 + 1 := by omega
  obtain ⟨hc1, hf1⟩ := bcell hb1
  have hB := later (w := w) (by go_grown) hb1
  go_wp2_with fail
  refine wp_loop_rounds 3 ?_
  repeat any_goals (rw [rounds_succ]; go_wp2_with fail)
  refine bodyPost_ret (ret_cells3 rfl rfl (by first | with_reducible exact stored3 r0 r1 r2 | with_reducible exact cells3_alloc (stored3 r0 r1 r2) | with_reducible exact cells3_alloc (cells3_alloc (stored3 r0 r1 r2)) | with_reducible exact cells3_alloc (cells3_alloc (cells3_alloc (stored3 r0 r1 r2))) | with_reducible exact cells3_alloc (cells3_alloc (cells3_alloc (cells3_alloc (stored3 r0 r1 r2))))) (Tryd.isAgg23 _) (Tryd.sizeOf23 _)) rfl ?_
  exact Rets.mk rfl (by go_grown)

set_option maxHeartbeats 1000000 in
theorem RefJoin_ok (a b : GV) (w : World) (hq : (a.ok && b.ok) = true)
    (a1 : (a.k == 1) = false) (a2 : (a.k == 2) = false) (b1 : (b.k == 1) = false) (b2 : (b.k == 2) = false) (a0 : (a.k == 0) = false) (b0 : (b.k == 0) = false) (hk : (a.k != b.k) = false) (hs : a.s.size + b.s.size ≤ 9223372036854775807) :
    Calls Tryd.prog 15 #[a.val, b.val] w (Rets (.tuple #[(⟨a.k, 0, a.s ++ b.s⟩ : GV).val, .int .i64 0]) w) := by
  have hc := fun W v hv => ref_may2 a b v W hv
  rw [hq] at hc
  unfold GV.val
  clear hq
  go_enter Tryd.func15, Tryd.ntmps15
  go_wp2_with fail
  refine (hc _ _ (VS.made [a, b] (by simp) rfl rfl (by simp))).mono ?_
  rintro e w1 ⟨rfl, hb1⟩
  have r0 := cell_below hb1 (a := ⟨w.heap.size + 1 + 1, 0, none⟩) (v := .int .i64 0) (by simp [go_sem])
  have r1 := cell_below hb1 (a := ⟨w.heap.size + 1 + 1, 1, none⟩) (v := .int .i64 0) (by simp [go_sem])
  have r2 := cell_below hb1 (a := ⟨w.heap.size + 1 + 1, 2, none⟩) (v := .string ⟨#[]⟩) (by simp [go_sem])
  have ak := cell_below hb1 (a := ⟨w.heap.size, 0, none⟩) (v := .int .i64 a.k) (by simp [go_sem])
  have ai := cell_below hb1 (a := ⟨w.heap.size, 1, none⟩) (v := .int .i64 a.i) (by simp [go_sem])
  have asx := cell_below hb1 (a := ⟨w.heap.size, 2, none⟩) (v := .string a.s) (by simp [go_sem])
  have bk := cell_below hb1 (a := ⟨w.heap.size + 1, 0, none⟩) (v := .int .i64 b.k) (by simp [go_sem])
  have bi := cell_below hb1 (a := ⟨w.heap.size + 1, 1, none⟩) (v := .int .i64 b.i) (by simp [go_sem])
  have bs := cell_below hb1 (a := ⟨w.heap.size + 1, 2, none⟩) (v := .string b.s) (by simp [go_sem])
  have hz0 : w.heap.size < w1.heap.size := by have := hb1.size; simp at this; omega
  have hz1 : w.heap.size + 1 < w1.heap.size := by have := hb1.size; simp at this; omega
  have hz2 : w.heap.size + 1 + 1 < w1.heap.size := by have := hb1.size; simp at this; omega
  have hy0 : w.heap.size < w1.heap.size + 1 := by omega
  have hy1 : w.heap.size + 1 < w1.heap.size + 1 := by omega
  have hx0 : w.heap.size < w1.heap.size + 1 + 1 := by omega
  have hx1 : w.heap.size + 1 < w1.heap.size + 1 + 1 := by omega
  obtain ⟨hc1, hf1⟩ := bcell hb1
  have hB := later (w := w) (by go_grown) hb1
  go_wp2_with fail
  refine wp_loop_rounds 3 ?_
  repeat any_goals (rw [rounds_succ]; go_wp2_with fail)
  refine bodyPost_ret (ret_cells3 rfl rfl (by first | with_reducible exact stored3 r0 r1 r2 | with_reducible exact cells3_alloc (stored3 r0 r1 r2) | with_reducible exact cells3_alloc (cells3_alloc (stored3 r0 r1 r2)) | with_reducible exact cells3_alloc (cells3_alloc (cells3_alloc (stored3 r0 r1 r2))) | with_reducible exact cells3_alloc (cells3_alloc (cells3_alloc (cells3_alloc (stored3 r0 r1 r2))))) (Tryd.isAgg23 _) (Tryd.sizeOf23 _)) rfl ?_
  exact Rets.mk rfl (by go_grown)

theorem ref_Join (a b : GV) (w : World) (hs : a.s.size + b.s.size ≤ 9223372036854775807) :
    Calls Tryd.prog 15 #[a.val, b.val] w (Rets (.tuple #[(joinS a b).1.val, .int .i64 (joinS a b).2]) w) := by
  unfold joinS wholeB
  cases hq : (a.ok && b.ok) with
  | false => exact RefJoin_bad a b w hq
  | true =>
    cases a1 : (a.k == 1) with
    | true => exact RefJoin_a1 a b w hq a1
    | false =>
      cases a2 : (a.k == 2) with
      | true => exact RefJoin_a2 a b w hq a1 a2
      | false =>
        cases b1 : (b.k == 1) with
        | true => exact RefJoin_b1 a b w hq a1 a2 b1
        | false =>
          cases b2 : (b.k == 2) with
          | true => exact RefJoin_b2 a b w hq a1 a2 b1 b2
          | false =>
            cases a0 : (a.k == 0) with
            | true => exact RefJoin_na a b w hq a1 a2 b1 b2 a0
            | false =>
              cases b0 : (b.k == 0) with
              | true => exact RefJoin_nb a b w hq a1 a2 b1 b2 a0 b0
              | false =>
                cases hk : (a.k != b.k) with
                | true => exact RefJoin_kind a b w hq a1 a2 b1 b2 a0 b0 hk
                | false => exact RefJoin_ok a b w hq a1 a2 b1 b2 a0 b0 hk hs
end Go.Proofs.YtddnkjeogidfcaaDoor
