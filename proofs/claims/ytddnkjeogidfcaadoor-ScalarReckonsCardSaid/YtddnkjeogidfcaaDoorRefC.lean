/-  The document's Arith at *, /, %; at any word. -/
import Derived.Test.YtddnkjeogidfcaaDoorRefB
namespace Go.Proofs.YtddnkjeogidfcaaDoor
open Go.RowKit Go.Shelf Go

set_option maxHeartbeats 1000000 in
theorem RefArith42_kind0 (a b : GV) (w : World) (hq : (a.ok && b.ok) = true)
    (h0 : (a.k != 0) = true) (h2 : (a.k != 2) = true) :
    Calls Tryd.prog 11 #[.string ⟨#[42]⟩, a.val, b.val] w (Rets (.tuple #[GV.none.val, .int .i64 20]) w) := by
  have hc := fun W v hv => ref_may2 a b v W hv
  rw [hq] at hc
  unfold GV.val
  clear hq
  go_enter Tryd.func11, Tryd.ntmps11
  go_wp2_with fail
  refine (hc _ _ (VS.made [a, b] (by simp) rfl rfl (by simp))).mono ?_
  rintro e w1 ⟨rfl, hb1⟩
  have r0 := cell_below hb1 (a := ⟨w.heap.size + 1 + 1, 0, none⟩) (v := .int .i64 0) (by simp [go_sem])
  have r1 := cell_below hb1 (a := ⟨w.heap.size + 1 + 1, 1, none⟩) (v := .int .i64 0) (by simp [go_sem])
  have r2 := cell_below hb1 (a := ⟨w.heap.size + 1 + 1, 2, none⟩) (v := .string ⟨#[]⟩) (by simp [go_sem])
  have ak := cell_below hb1 (a := ⟨w.heap.size, 0, none⟩) (v := .int .i64 a.k) (by simp [go_sem])
  have ai := cell_below hb1 (a := ⟨w.heap.size, 1, none⟩) (v := .int .i64 a.i) (by simp [go_sem])
  have bk := cell_below hb1 (a := ⟨w.heap.size + 1, 0, none⟩) (v := .int .i64 b.k) (by simp [go_sem])
  have bi := cell_below hb1 (a := ⟨w.heap.size + 1, 1, none⟩) (v := .int .i64 b.i) (by simp [go_sem])
  have hz0 : w.heap.size < w1.heap.size := by have := hb1.size; simp at this; omega
  have hz1 : w.heap.size + 1 < w1.heap.size := by have := hb1.size; simp at this; omega
  have hz2 : w.heap.size + 1 + 1 < w1.heap.size := by have := hb1.size; simp at this; omega
  have hy0 : w.heap.size < w1.heap.size + 1 := by omega
  have hy1 : w.heap.size + 1 < w1.heap.size + 1 := by omega
  have hx0 : w.heap.size < w1.heap.size + 1 + 1 := by omega
  have hx1 : w.heap.size + 1 < w1.heap.size + 1 + 1 := by omega
  obtain ⟨hc1, hf1⟩ := bcell hb1
  have hB := later (w := w) (by go_grown) hb1
  go_wp2_with fail
  refine wp_loop_rounds 3 ?_
  repeat any_goals (rw [rounds_succ]; go_wp2_with fail)
  refine bodyPost_ret (ret_cells3 rfl rfl (by first | with_reducible exact stored3 r0 r1 r2 | with_reducible exact cells3_alloc (stored3 r0 r1 r2) | with_reducible exact cells3_alloc (cells3_alloc (stored3 r0 r1 r2)) | with_reducible exact cells3_alloc (cells3_alloc (cells3_alloc (stored3 r0 r1 r2))) | with_reducible exact cells3_alloc (cells3_alloc (cells3_alloc (cells3_alloc (stored3 r0 r1 r2))))) (Tryd.isAgg23 _) (Tryd.sizeOf23 _)) rfl ?_
  exact Rets.mk rfl (by go_grown)

set_option maxHeartbeats 1000000 in
theorem RefArith42_kind1a (a b : GV) (w : World) (hq : (a.ok && b.ok) = true)
    (h0 : (a.k != 0) = false) (h0'' : (a.k == 0) = true) (h1 : (b.k != 0) = true) (h2 : (b.k != 2) = true) :
    Calls Tryd.prog 11 #[.string ⟨#[42]⟩, a.val, b.val] w (Rets (.tuple #[GV.none.val, .int .i64 20]) w) := by
  have hc := fun W v hv => ref_may2 a b v W hv
  rw [hq] at hc
  unfold GV.val
  clear hq
  go_enter Tryd.func11, Tryd.ntmps11
  go_wp2_with fail
  refine (hc _ _ (VS.made [a, b] (by simp) rfl rfl (by simp))).mono ?_
  rintro e w1 ⟨rfl, hb1⟩
  have r0 := cell_below hb1 (a := ⟨w.heap.size + 1 + 1, 0, none⟩) (v := .int .i64 0) (by simp [go_sem])
  have r1 := cell_below hb1 (a := ⟨w.heap.size + 1 + 1, 1, none⟩) (v := .int .i64 0) (by simp [go_sem])
  have r2 := cell_below hb1 (a := ⟨w.heap.size + 1 + 1, 2, none⟩) (v := .string ⟨#[]⟩) (by simp [go_sem])
  have ak := cell_below hb1 (a := ⟨w.heap.size, 0, none⟩) (v := .int .i64 a.k) (by simp [go_sem])
  have ai := cell_below hb1 (a := ⟨w.heap.size, 1, none⟩) (v := .int .i64 a.i) (by simp [go_sem])
  have bk := cell_below hb1 (a := ⟨w.heap.size + 1, 0, none⟩) (v := .int .i64 b.k) (by simp [go_sem])
  have bi := cell_below hb1 (a := ⟨w.heap.size + 1, 1, none⟩) (v := .int .i64 b.i) (by simp [go_sem])
  have hz0 : w.heap.size < w1.heap.size := by have := hb1.size; simp at this; omega
  have hz1 : w.heap.size + 1 < w1.heap.size := by have := hb1.size; simp at this; omega
  have hz2 : w.heap.size + 1 + 1 < w1.heap.size := by have := hb1.size; simp at this; omega
  have hy0 : w.heap.size < w1.heap.size + 1 := by omega
  have hy1 : w.heap.size + 1 < w1.heap.size + 1 := by omega
  have hx0 : w.heap.size < w1.heap.size + 1 + 1 := by omega
  have hx1 : w.heap.size + 1 < w1.heap.size + 1 + 1 := by omega
  obtain ⟨hc1, hf1⟩ := bcell hb1
  have hB := later (w := w) (by go_grown) hb1
  go_wp2_with fail
  refine wp_loop_rounds 3 ?_
  repeat any_goals (rw [rounds_succ]; go_wp2_with fail)
  refine bodyPost_ret (ret_cells3 rfl rfl (by first | with_reducible exact stored3 r0 r1 r2 | with_reducible exact cells3_alloc (stored3 r0 r1 r2) | with_reducible exact cells3_alloc (cells3_alloc (stored3 r0 r1 r2)) | with_reducible exact cells3_alloc (cells3_alloc (cells3_alloc (stored3 r0 r1 r2))) | with_reducible exact cells3_alloc (cells3_alloc (cells3_alloc (cells3_alloc (stored3 r0 r1 r2))))) (Tryd.isAgg23 _) (Tryd.sizeOf23 _)) rfl ?_
  exact Rets.mk rfl (by go_grown)

set_option maxHeartbeats 1000000 in
theorem RefArith42_kind1b (a b : GV) (w : World) (hq : (a.ok && b.ok) = true)
    (h0 : (a.k != 0) = true) (h0'' : (a.k == 0) = false) (h0' : (a.k != 2) = false) (h1 : (b.k != 0) = true) (h2 : (b.k != 2) = true) :
    Calls Tryd.prog 11 #[.string ⟨#[42]⟩, a.val, b.val] w (Rets (.tuple #[GV.none.val, .int .i64 20]) w) := by
  have hc := fun W v hv => ref_may2 a b v W hv
  rw [hq] at hc
  unfold GV.val
  clear hq
  go_enter Tryd.func11, Tryd.ntmps11
  go_wp2_with fail
  refine (hc _ _ (VS.made [a, b] (by simp) rfl rfl (by simp))).mono ?_
  rintro e w1 ⟨rfl, hb1⟩
  have r0 := cell_below hb1 (a := ⟨w.heap.size + 1 + 1, 0, none⟩) (v := .int .i64 0) (by simp [go_sem])
  have r1 := cell_below hb1 (a := ⟨w.heap.size + 1 + 1, 1, none⟩) (v := .int .i64 0) (by simp [go_sem])
  have r2 := cell_below hb1 (a := ⟨w.heap.size + 1 + 1, 2, none⟩) (v := .string ⟨#[]⟩) (by simp [go_sem])
  have ak := cell_below hb1 (a := ⟨w.heap.size, 0, none⟩) (v := .int .i64 a.k) (by simp [go_sem])
  have ai := cell_below hb1 (a := ⟨w.heap.size, 1, none⟩) (v := .int .i64 a.i) (by simp [go_sem])
  have bk := cell_below hb1 (a := ⟨w.heap.size + 1, 0, none⟩) (v := .int .i64 b.k) (by simp [go_sem])
  have bi := cell_below hb1 (a := ⟨w.heap.size + 1, 1, none⟩) (v := .int .i64 b.i) (by simp [go_sem])
  have hz0 : w.heap.size < w1.heap.size := by have := hb1.size; simp at this; omega
  have hz1 : w.heap.size + 1 < w1.heap.size := by have := hb1.size; simp at this; omega
  have hz2 : w.heap.size + 1 + 1 < w1.heap.size := by have := hb1.size; simp at this; omega
  have hy0 : w.heap.size < w1.heap.size + 1 := by omega
  have hy1 : w.heap.size + 1 < w1.heap.size + 1 := by omega
  have hx0 : w.heap.size < w1.heap.size + 1 + 1 := by omega
  have hx1 : w.heap.size + 1 < w1.heap.size + 1 + 1 := by omega
  obtain ⟨hc1, hf1⟩ := bcell hb1
  have hB := later (w := w) (by go_grown) hb1
  go_wp2_with fail
  refine wp_loop_rounds 3 ?_
  repeat any_goals (rw [rounds_succ]; go_wp2_with fail)
  refine bodyPost_ret (ret_cells3 rfl rfl (by first | with_reducible exact stored3 r0 r1 r2 | with_reducible exact cells3_alloc (stored3 r0 r1 r2) | with_reducible exact cells3_alloc (cells3_alloc (stored3 r0 r1 r2)) | with_reducible exact cells3_alloc (cells3_alloc (cells3_alloc (stored3 r0 r1 r2))) | with_reducible exact cells3_alloc (cells3_alloc (cells3_alloc (cells3_alloc (stored3 r0 r1 r2))))) (Tryd.isAgg23 _) (Tryd.sizeOf23 _)) rfl ?_
  exact Rets.mk rfl (by go_grown)

set_option maxHeartbeats 1000000 in
theorem RefArith42_nulla (a b : GV) (w : World) (hq : (a.ok && b.ok) = true)
    (h0 : (a.k != 0) = false) (h0'' : (a.k == 0) = true) (h1 : (b.k != 0) = false) (h1'' : (b.k == 0) = true) :
    Calls Tryd.prog 11 #[.string ⟨#[42]⟩, a.val, b.val] w (Rets (.tuple #[GV.none.val, .int .i64 0]) w) := by
  have hc := fun W v hv => ref_may2 a b v W hv
  rw [hq] at hc
  unfold GV.val
  clear hq
  go_enter Tryd.func11, Tryd.ntmps11
  go_wp2_with fail
  refine (hc _ _ (VS.made [a, b] (by simp) rfl rfl (by simp))).mono ?_
  rintro e w1 ⟨rfl, hb1⟩
  have r0 := cell_below hb1 (a := ⟨w.heap.size + 1 + 1, 0, none⟩) (v := .int .i64 0) (by simp [go_sem])
  have r1 := cell_below hb1 (a := ⟨w.heap.size + 1 + 1, 1, none⟩) (v := .int .i64 0) (by simp [go_sem])
  have r2 := cell_below hb1 (a := ⟨w.heap.size + 1 + 1, 2, none⟩) (v := .string ⟨#[]⟩) (by simp [go_sem])
  have ak := cell_below hb1 (a := ⟨w.heap.size, 0, none⟩) (v := .int .i64 a.k) (by simp [go_sem])
  have ai := cell_below hb1 (a := ⟨w.heap.size, 1, none⟩) (v := .int .i64 a.i) (by simp [go_sem])
  have bk := cell_below hb1 (a := ⟨w.heap.size + 1, 0, none⟩) (v := .int .i64 b.k) (by simp [go_sem])
  have bi := cell_below hb1 (a := ⟨w.heap.size + 1, 1, none⟩) (v := .int .i64 b.i) (by simp [go_sem])
  have hz0 : w.heap.size < w1.heap.size := by have := hb1.size; simp at this; omega
  have hz1 : w.heap.size + 1 < w1.heap.size := by have := hb1.size; simp at this; omega
  have hz2 : w.heap.size + 1 + 1 < w1.heap.size := by have := hb1.size; simp at this; omega
  have hy0 : w.heap.size < w1.heap.size + 1 := by omega
  have hy1 : w.heap.size + 1 < w1.heap.size + 1 := by omega
  have hx0 : w.heap.size < w1.heap.size + 1 + 1 := by omega
  have hx1 : w.heap.size + 1 < w1.heap.size + 1 + 1 := by omega
  obtain ⟨hc1, hf1⟩ := bcell hb1
  have hB := later (w := w) (by go_grown) hb1
  go_wp2_with fail
  refine wp_loop_rounds 3 ?_
  repeat any_goals (rw [rounds_succ]; go_wp2_with fail)
  refine bodyPost_ret (ret_cells3 rfl rfl (by first | with_reducible exact stored3 r0 r1 r2 | with_reducible exact cells3_alloc (stored3 r0 r1 r2) | with_reducible exact cells3_alloc (cells3_alloc (stored3 r0 r1 r2)) | with_reducible exact cells3_alloc (cells3_alloc (cells3_alloc (stored3 r0 r1 r2))) | with_reducible exact cells3_alloc (cells3_alloc (cells3_alloc (cells3_alloc (stored3 r0 r1 r2))))) (Tryd.isAgg23 _) (Tryd.sizeOf23 _)) rfl ?_
  exact Rets.mk rfl (by go_grown)

set_option maxHeartbeats 1000000 in
theorem RefArith42_nullb (a b : GV) (w : World) (hq : (a.ok && b.ok) = true)
    (h0 : (a.k != 0) = false) (h0'' : (a.k == 0) = true) (h1 : (b.k != 0) = true) (h1'' : (b.k == 0) = false) (h1' : (b.k != 2) = false) :
    Calls Tryd.prog 11 #[.string ⟨#[42]⟩, a.val, b.val] w (Rets (.tuple #[GV.none.val, .int .i64 0]) w) := by
  have hc := fun W v hv => ref_may2 a b v W hv
  rw [hq] at hc
  unfold GV.val
  clear hq
  go_enter Tryd.func11, Tryd.ntmps11
  go_wp2_with fail
  refine (hc _ _ (VS.made [a, b] (by simp) rfl rfl (by simp))).mono ?_
  rintro e w1 ⟨rfl, hb1⟩
  have r0 := cell_below hb1 (a := ⟨w.heap.size + 1 + 1, 0, none⟩) (v := .int .i64 0) (by simp [go_sem])
  have r1 := cell_below hb1 (a := ⟨w.heap.size + 1 + 1, 1, none⟩) (v := .int .i64 0) (by simp [go_sem])
  have r2 := cell_below hb1 (a := ⟨w.heap.size + 1 + 1, 2, none⟩) (v := .string ⟨#[]⟩) (by simp [go_sem])
  have ak := cell_below hb1 (a := ⟨w.heap.size, 0, none⟩) (v := .int .i64 a.k) (by simp [go_sem])
  have ai := cell_below hb1 (a := ⟨w.heap.size, 1, none⟩) (v := .int .i64 a.i) (by simp [go_sem])
  have bk := cell_below hb1 (a := ⟨w.heap.size + 1, 0, none⟩) (v := .int .i64 b.k) (by simp [go_sem])
  have bi := cell_below hb1 (a := ⟨w.heap.size + 1, 1, none⟩) (v := .int .i64 b.i) (by simp [go_sem])
  have hz0 : w.heap.size < w1.heap.size := by have := hb1.size; simp at this; omega
  have hz1 : w.heap.size + 1 < w1.heap.size := by have := hb1.size; simp at this; omega
  have hz2 : w.heap.size + 1 + 1 < w1.heap.size := by have := hb1.size; simp at this; omega
  have hy0 : w.heap.size < w1.heap.size + 1 := by omega
  have hy1 : w.heap.size + 1 < w1.heap.size + 1 := by omega
  have hx0 : w.heap.size < w1.heap.size + 1 + 1 := by omega
  have hx1 : w.heap.size + 1 < w1.heap.size + 1 + 1 := by omega
  obtain ⟨hc1, hf1⟩ := bcell hb1
  have hB := later (w := w) (by go_grown) hb1
  go_wp2_with fail
  refine wp_loop_rounds 3 ?_
  repeat any_goals (rw [rounds_succ]; go_wp2_with fail)
  refine bodyPost_ret (ret_cells3 rfl rfl (by first | with_reducible exact stored3 r0 r1 r2 | with_reducible exact cells3_alloc (stored3 r0 r1 r2) | with_reducible exact cells3_alloc (cells3_alloc (stored3 r0 r1 r2)) | with_reducible exact cells3_alloc (cells3_alloc (cells3_alloc (stored3 r0 r1 r2))) | with_reducible exact cells3_alloc (cells3_alloc (cells3_alloc (cells3_alloc (stored3 r0 r1 r2))))) (Tryd.isAgg23 _) (Tryd.sizeOf23 _)) rfl ?_
  exact Rets.mk rfl (by go_grown)

set_option maxHeartbeats 1000000 in
theorem RefArith42_nullc (a b : GV) (w : World) (hq : (a.ok && b.ok) = true)
    (h0 : (a.k != 0) = true) (h0'' : (a.k == 0) = false) (h0' : (a.k != 2) = false) (h1 : (b.k != 0) = false) (h1'' : (b.k == 0) = true) :
    Calls Tryd.prog 11 #[.string ⟨#[42]⟩, a.val, b.val] w (Rets (.tuple #[GV.none.val, .int .i64 0]) w) := by
  have hc := fun W v hv => ref_may2 a b v W hv
  rw [hq] at hc
  unfold GV.val
  clear hq
  go_enter Tryd.func11, Tryd.ntmps11
  go_wp2_with fail
  refine (hc _ _ (VS.made [a, b] (by simp) rfl rfl (by simp))).mono ?_
  rintro e w1 ⟨rfl, hb1⟩
  have r0 := cell_below hb1 (a := ⟨w.heap.size + 1 + 1, 0, none⟩) (v := .int .i64 0) (by simp [go_sem])
  have r1 := cell_below hb1 (a := ⟨w.heap.size + 1 + 1, 1, none⟩) (v := .int .i64 0) (by simp [go_sem])
  have r2 := cell_below hb1 (a := ⟨w.heap.size + 1 + 1, 2, none⟩) (v := .string ⟨#[]⟩) (by simp [go_sem])
  have ak := cell_below hb1 (a := ⟨w.heap.size, 0, none⟩) (v := .int .i64 a.k) (by simp [go_sem])
  have ai := cell_below hb1 (a := ⟨w.heap.size, 1, none⟩) (v := .int .i64 a.i) (by simp [go_sem])
  have bk := cell_below hb1 (a := ⟨w.heap.size + 1, 0, none⟩) (v := .int .i64 b.k) (by simp [go_sem])
  have bi := cell_below hb1 (a := ⟨w.heap.size + 1, 1, none⟩) (v := .int .i64 b.i) (by simp [go_sem])
  have hz0 : w.heap.size < w1.heap.size := by have := hb1.size; simp at this; omega
  have hz1 : w.heap.size + 1 < w1.heap.size := by have := hb1.size; simp at this; omega
  have hz2 : w.heap.size + 1 + 1 < w1.heap.size := by have := hb1.size; simp at this; omega
  have hy0 : w.heap.size < w1.heap.size + 1 := by omega
  have hy1 : w.heap.size + 1 < w1.heap.size + 1 := by omega
  have hx0 : w.heap.size < w1.heap.size + 1 + 1 := by omega
  have hx1 : w.heap.size + 1 < w1.heap.size + 1 + 1 := by omega
  obtain ⟨hc1, hf1⟩ := bcell hb1
  have hB := later (w := w) (by go_grown) hb1
  go_wp2_with fail
  refine wp_loop_rounds 3 ?_
  repeat any_goals (rw [rounds_succ]; go_wp2_with fail)
  refine bodyPost_ret (ret_cells3 rfl rfl (by first | with_reducible exact stored3 r0 r1 r2 | with_reducible exact cells3_alloc (stored3 r0 r1 r2) | with_reducible exact cells3_alloc (cells3_alloc (stored3 r0 r1 r2)) | with_reducible exact cells3_alloc (cells3_alloc (cells3_alloc (stored3 r0 r1 r2))) | with_reducible exact cells3_alloc (cells3_alloc (cells3_alloc (cells3_alloc (stored3 r0 r1 r2))))) (Tryd.isAgg23 _) (Tryd.sizeOf23 _)) rfl ?_
  exact Rets.mk rfl (by go_grown)

set_option maxHeartbeats 1000000 in
theorem RefArith42_err (a b : GV) (w : World) (hq : (a.ok && b.ok) = true)
    (h0 : (a.k != 0) = true) (h0'' : (a.k == 0) = false) (h0' : (a.k != 2) = false) (h1 : (b.k != 0) = true) (h1'' : (b.k == 0) = false) (h1' : (b.k != 2) = false) (n er : Int) (hr : ∀ W, Calls Tryd.prog 28 #[.string ⟨#[42]⟩, .int .i64 a.i, .int .i64 b.i] W (Rets (.tuple #[.int .i64 n, .int .i64 er]) W)) (her : (er != 0) = true) :
    Calls Tryd.prog 11 #[.string ⟨#[42]⟩, a.val, b.val] w (Rets (.tuple #[GV.none.val, .int .i64 er]) w) := by
  have hc := fun W v hv => ref_may2 a b v W hv
  rw [hq] at hc
  unfold GV.val
  clear hq
  go_enter Tryd.func11, Tryd.ntmps11
  go_wp2_with fail
  refine (hc _ _ (VS.made [a, b] (by simp) rfl rfl (by simp))).mono ?_
  rintro e w1 ⟨rfl, hb1⟩
  have r0 := cell_below hb1 (a := ⟨w.heap.size + 1 + 1, 0, none⟩) (v := .int .i64 0) (by simp [go_sem])
  have r1 := cell_below hb1 (a := ⟨w.heap.size + 1 + 1, 1, none⟩) (v := .int .i64 0) (by simp [go_sem])
  have r2 := cell_below hb1 (a := ⟨w.heap.size + 1 + 1, 2, none⟩) (v := .string ⟨#[]⟩) (by simp [go_sem])
  have ak := cell_below hb1 (a := ⟨w.heap.size, 0, none⟩) (v := .int .i64 a.k) (by simp [go_sem])
  have ai := cell_below hb1 (a := ⟨w.heap.size, 1, none⟩) (v := .int .i64 a.i) (by simp [go_sem])
  have bk := cell_below hb1 (a := ⟨w.heap.size + 1, 0, none⟩) (v := .int .i64 b.k) (by simp [go_sem])
  have bi := cell_below hb1 (a := ⟨w.heap.size + 1, 1, none⟩) (v := .int .i64 b.i) (by simp [go_sem])
  have hz0 : w.heap.size < w1.heap.size := by have := hb1.size; simp at this; omega
  have hz1 : w.heap.size + 1 < w1.heap.size := by have := hb1.size; simp at this; omega
  have hz2 : w.heap.size + 1 + 1 < w1.heap.size := by have := hb1.size; simp at this; omega
  have hy0 : w.heap.size < w1.heap.size + 1 := by omega
  have hy1 : w.heap.size + 1 < w1.heap.size + 1 := by omega
  have hx0 : w.heap.size < w1.heap.size + 1 + 1 := by omega
  have hx1 : w.heap.size + 1 < w1.heap.size + 1 + 1 := by omega
  obtain ⟨hc1, hf1⟩ := bcell hb1
  have hB := later (w := w) (by go_grown) hb1
  go_wp2_with fail
  refine wp_loop_rounds 3 ?_
  repeat any_goals (rw [rounds_succ]; go_wp2_with fail)
  refine (hr _).mono ?_
  rintro e w3 ⟨rfl, hb3⟩
  have q0 := cell_below hb3 (cell_alloc (cell_alloc (cell_alloc r0)))
  have q1 := cell_below hb3 (cell_alloc (cell_alloc (cell_alloc r1)))
  have q2 := cell_below hb3 (cell_alloc (cell_alloc (cell_alloc r2)))
  have fz := bcell hb3
  have hB3 := later (w := w) (by go_grown) hb3
  have hz32 : w.heap.size + 1 + 1 < w3.heap.size := by have := hb3.size; simp at this; omega
  have f0 : w3.frozen? ⟨w.heap.size + 1 + 1, 0, none⟩ = false := by rw [fz.2 _ _ (by simp; omega)]; simp [go_sem, *]
  have f1 : w3.frozen? ⟨w.heap.size + 1 + 1, 1, none⟩ = false := by rw [fz.2 _ _ (by simp; omega)]; simp [go_sem, *]
  have f2 : w3.frozen? ⟨w.heap.size + 1 + 1, 2, none⟩ = false := by rw [fz.2 _ _ (by simp; omega)]; simp [go_sem, *]
  clear hc1 hf1 fz r0 r1 r2 hB hz0 hz1 hz2 hy0 hy1 hx0 hx1 hc ak ai bk bi
  go_wp2
  refine bodyPost_ret (ret_cells3 rfl rfl (by first | with_reducible exact stored3 q0 q1 q2 | with_reducible exact cells3_alloc (stored3 q0 q1 q2) | with_reducible exact cells3_alloc (cells3_alloc (stored3 q0 q1 q2)) | with_reducible exact cells3_alloc (cells3_alloc (cells3_alloc (stored3 q0 q1 q2))) | with_reducible exact cells3_alloc (cells3_alloc (cells3_alloc (cells3_alloc (stored3 q0 q1 q2))))) (Tryd.isAgg23 _) (Tryd.sizeOf23 _)) rfl ?_
  exact Rets.mk rfl (by go_grown)

set_option maxHeartbeats 1000000 in
theorem RefArith42_ok (a b : GV) (w : World) (hq : (a.ok && b.ok) = true)
    (h0 : (a.k != 0) = true) (h0'' : (a.k == 0) = false) (h0' : (a.k != 2) = false) (h1 : (b.k != 0) = true) (h1'' : (b.k == 0) = false) (h1' : (b.k != 2) = false) (n : Int) (hr : ∀ W, Calls Tryd.prog 28 #[.string ⟨#[42]⟩, .int .i64 a.i, .int .i64 b.i] W (Rets (.tuple #[.int .i64 n, .int .i64 0]) W)) :
    Calls Tryd.prog 11 #[.string ⟨#[42]⟩, a.val, b.val] w (Rets (.tuple #[(GV.num n).val, .int .i64 0]) w) := by
  have hc := fun W v hv => ref_may2 a b v W hv
  rw [hq] at hc
  have hnum := ref_Int1 n
  unfold GV.val
  clear hq
  go_enter Tryd.func11, Tryd.ntmps11
  go_wp2_with fail
  refine (hc _ _ (VS.made [a, b] (by simp) rfl rfl (by simp))).mono ?_
  rintro e w1 ⟨rfl, hb1⟩
  have r0 := cell_below hb1 (a := ⟨w.heap.size + 1 + 1, 0, none⟩) (v := .int .i64 0) (by simp [go_sem])
  have r1 := cell_below hb1 (a := ⟨w.heap.size + 1 + 1, 1, none⟩) (v := .int .i64 0) (by simp [go_sem])
  have r2 := cell_below hb1 (a := ⟨w.heap.size + 1 + 1, 2, none⟩) (v := .string ⟨#[]⟩) (by simp [go_sem])
  have ak := cell_below hb1 (a := ⟨w.heap.size, 0, none⟩) (v := .int .i64 a.k) (by simp [go_sem])
  have ai := cell_below hb1 (a := ⟨w.heap.size, 1, none⟩) (v := .int .i64 a.i) (by simp [go_sem])
  have bk := cell_below hb1 (a := ⟨w.heap.size + 1, 0, none⟩) (v := .int .i64 b.k) (by simp [go_sem])
  have bi := cell_below hb1 (a := ⟨w.heap.size + 1, 1, none⟩) (v := .int .i64 b.i) (by simp [go_sem])
  have hz0 : w.heap.size < w1.heap.size := by have := hb1.size; simp at this; omega
  have hz1 : w.heap.size + 1 < w1.heap.size := by have := hb1.size; simp at this; omega
  have hz2 : w.heap.size + 1 + 1 < w1.heap.size := by have := hb1.size; simp at this; omega
  have hy0 : w.heap.size < w1.heap.size + 1 := by omega
  have hy1 : w.heap.size + 1 < w1.heap.size + 1 := by omega
  have hx0 : w.heap.size < w1.heap.size + 1 + 1 := by omega
  have hx1 : w.heap.size + 1 < w1.heap.size + 1 + 1 := by omega
  obtain ⟨hc1, hf1⟩ := bcell hb1
  have hB := later (w := w) (by go_grown) hb1
  go_wp2_with fail
  refine wp_loop_rounds 3 ?_
  repeat any_goals (rw [rounds_succ]; go_wp2_with fail)
  refine (hr _).mono ?_
  rintro e w3 ⟨rfl, hb3⟩
  have q0 := cell_below hb3 (cell_alloc (cell_alloc (cell_alloc r0)))
  have q1 := cell_below hb3 (cell_alloc (cell_alloc (cell_alloc r1)))
  have q2 := cell_below hb3 (cell_alloc (cell_alloc (cell_alloc r2)))
  have fz := bcell hb3
  have hB3 := later (w := w) (by go_grown) hb3
  have hz32 : w.heap.size + 1 + 1 < w3.heap.size := by have := hb3.size; simp at this; omega
  have f0 : w3.frozen? ⟨w.heap.size + 1 + 1, 0, none⟩ = false := by rw [fz.2 _ _ (by simp; omega)]; simp [go_sem, *]
  have f1 : w3.frozen? ⟨w.heap.size + 1 + 1, 1, none⟩ = false := by rw [fz.2 _ _ (by simp; omega)]; simp [go_sem, *]
  have f2 : w3.frozen? ⟨w.heap.size + 1 + 1, 2, none⟩ = false := by rw [fz.2 _ _ (by simp; omega)]; simp [go_sem, *]
  clear hc1 hf1 fz r0 r1 r2 hB hz0 hz1 hz2 hy0 hy1 hx0 hx1 hc ak ai bk bi
  go_wp2_with fail
  refine (hnum _).mono ?_
  rintro e w5 ⟨rfl, hb5⟩
  have o0 := cell_below hb5 q0
  have o1 := cell_below hb5 q1
  have o2 := cell_below hb5 q2
  have e0 : w5.frozen? ⟨w.heap.size + 1 + 1, 0, none⟩ = false := by rw [(bcell hb5).2 _ _ hz32]; exact f0
  have e1 : w5.frozen? ⟨w.heap.size + 1 + 1, 1, none⟩ = false := by rw [(bcell hb5).2 _ _ hz32]; exact f1
  have e2 : w5.frozen? ⟨w.heap.size + 1 + 1, 2, none⟩ = false := by rw [(bcell hb5).2 _ _ hz32]; exact f2
  have hB5 := later hB3 hb5
  clear q0 q1 q2 f0 f1 f2 hB3 hz32
  unfold GV.val GV.num
  go_wp2
  refine bodyPost_ret (ret_cells3 rfl rfl (by first | with_reducible exact stored3 o0 o1 o2 | with_reducible exact cells3_alloc (stored3 o0 o1 o2) | with_reducible exact cells3_alloc (cells3_alloc (stored3 o0 o1 o2)) | with_reducible exact cells3_alloc (cells3_alloc (cells3_alloc (stored3 o0 o1 o2))) | with_reducible exact cells3_alloc (cells3_alloc (cells3_alloc (cells3_alloc (stored3 o0 o1 o2))))) (Tryd.isAgg23 _) (Tryd.sizeOf23 _)) rfl ?_
  exact Rets.mk rfl (by go_grown)

theorem RefArith42 (a b : GV) (w : World) (ha : I64 a.i) (hb : I64 b.i) (hq : (a.ok && b.ok) = true) :
    Calls Tryd.prog 11 #[.string ⟨#[42]⟩, a.val, b.val] w (Rets (.tuple #[(arithS [42] a b).1.val, .int .i64 (arithS [42] a b).2]) w) := by
  unfold arithS
  rw [hq, show signs.contains [42] = true from rfl]
  simp only [Bool.not_true, Bool.false_eq_true, if_false]
  have hr := fun W => ref_arith_mul a.i b.i W ha hb
  cases g0 : (a.k == 0) with
  | true =>
    have h0 : (a.k != 0) = false := by rw [bne, g0]; rfl
    rw [h0]
    cases g1 : (b.k == 0) with
    | true =>
      have h1 : (b.k != 0) = false := by rw [bne, g1]; rfl
      rw [h1]
      exact RefArith42_nulla a b w hq h0 g0 h1 g1
    | false =>
      have h1 : (b.k != 0) = true := by rw [bne, g1]; rfl
      rw [h1]
      cases h3 : (b.k != 2) with
      | true => exact RefArith42_kind1a a b w hq h0 g0 h1 h3
      | false => exact RefArith42_nullb a b w hq h0 g0 h1 g1 h3
  | false =>
    have h0 : (a.k != 0) = true := by rw [bne, g0]; rfl
    rw [h0]
    cases h2 : (a.k != 2) with
    | true => exact RefArith42_kind0 a b w hq h0 h2
    | false =>
      cases g1 : (b.k == 0) with
      | true =>
        have h1 : (b.k != 0) = false := by rw [bne, g1]; rfl
        rw [h1]
        exact RefArith42_nullc a b w hq h0 g0 h2 h1 g1
      | false =>
        have h1 : (b.k != 0) = true := by rw [bne, g1]; rfl
        rw [h1]
        cases h3 : (b.k != 2) with
        | true => exact RefArith42_kind1b a b w hq h0 g0 h2 h1 h3
        | false =>
          cases he : ((reckonS [42] a.i b.i).2 != 0) with
          | true => exact RefArith42_err a b w hq h0 g0 h2 h1 g1 h3 _ _ hr he
          | false =>
            have he' : (reckonS [42] a.i b.i).2 = 0 := by simpa using he
            rw [he'] at hr
            exact RefArith42_ok a b w hq h0 g0 h2 h1 g1 h3 _ hr

set_option maxHeartbeats 1000000 in
theorem RefArith47_kind0 (a b : GV) (w : World) (hq : (a.ok && b.ok) = true)
    (h0 : (a.k != 0) = true) (h2 : (a.k != 2) = true) :
    Calls Tryd.prog 11 #[.string ⟨#[47]⟩, a.val, b.val] w (Rets (.tuple #[GV.none.val, .int .i64 20]) w) := by
  have hc := fun W v hv => ref_may2 a b v W hv
  rw [hq] at hc
  unfold GV.val
  clear hq
  go_enter Tryd.func11, Tryd.ntmps11
  go_wp2_with fail
  refine (hc _ _ (VS.made [a, b] (by simp) rfl rfl (by simp))).mono ?_
  rintro e w1 ⟨rfl, hb1⟩
  have r0 := cell_below hb1 (a := ⟨w.heap.size + 1 + 1, 0, none⟩) (v := .int .i64 0) (by simp [go_sem])
  have r1 := cell_below hb1 (a := ⟨w.heap.size + 1 + 1, 1, none⟩) (v := .int .i64 0) (by simp [go_sem])
  have r2 := cell_below hb1 (a := ⟨w.heap.size + 1 + 1, 2, none⟩) (v := .string ⟨#[]⟩) (by simp [go_sem])
  have ak := cell_below hb1 (a := ⟨w.heap.size, 0, none⟩) (v := .int .i64 a.k) (by simp [go_sem])
  have ai := cell_below hb1 (a := ⟨w.heap.size, 1, none⟩) (v := .int .i64 a.i) (by simp [go_sem])
  have bk := cell_below hb1 (a := ⟨w.heap.size + 1, 0, none⟩) (v := .int .i64 b.k) (by simp [go_sem])
  have bi := cell_below hb1 (a := ⟨w.heap.size + 1, 1, none⟩) (v := .int .i64 b.i) (by simp [go_sem])
  have hz0 : w.heap.size < w1.heap.size := by have := hb1.size; simp at this; omega
  have hz1 : w.heap.size + 1 < w1.heap.size := by have := hb1.size; simp at this; omega
  have hz2 : w.heap.size + 1 + 1 < w1.heap.size := by have := hb1.size; simp at this; omega
  have hy0 : w.heap.size < w1.heap.size + 1 := by omega
  have hy1 : w.heap.size + 1 < w1.heap.size + 1 := by omega
  have hx0 : w.heap.size < w1.heap.size + 1 + 1 := by omega
  have hx1 : w.heap.size + 1 < w1.heap.size + 1 + 1 := by omega
  obtain ⟨hc1, hf1⟩ := bcell hb1
  have hB := later (w := w) (by go_grown) hb1
  go_wp2_with fail
  refine wp_loop_rounds 3 ?_
  repeat any_goals (rw [rounds_succ]; go_wp2_with fail)
  refine bodyPost_ret (ret_cells3 rfl rfl (by first | with_reducible exact stored3 r0 r1 r2 | with_reducible exact cells3_alloc (stored3 r0 r1 r2) | with_reducible exact cells3_alloc (cells3_alloc (stored3 r0 r1 r2)) | with_reducible exact cells3_alloc (cells3_alloc (cells3_alloc (stored3 r0 r1 r2))) | with_reducible exact cells3_alloc (cells3_alloc (cells3_alloc (cells3_alloc (stored3 r0 r1 r2))))) (Tryd.isAgg23 _) (Tryd.sizeOf23 _)) rfl ?_
  exact Rets.mk rfl (by go_grown)

set_option maxHeartbeats 1000000 in
theorem RefArith47_kind1a (a b : GV) (w : World) (hq : (a.ok && b.ok) = true)
    (h0 : (a.k != 0) = false) (h0'' : (a.k == 0) = true) (h1 : (b.k != 0) = true) (h2 : (b.k != 2) = true) :
    Calls Tryd.prog 11 #[.string ⟨#[47]⟩, a.val, b.val] w (Rets (.tuple #[GV.none.val, .int .i64 20]) w) := by
  have hc := fun W v hv => ref_may2 a b v W hv
  rw [hq] at hc
  unfold GV.val
  clear hq
  go_enter Tryd.func11, Tryd.ntmps11
  go_wp2_with fail
  refine (hc _ _ (VS.made [a, b] (by simp) rfl rfl (by simp))).mono ?_
  rintro e w1 ⟨rfl, hb1⟩
  have r0 := cell_below hb1 (a := ⟨w.heap.size + 1 + 1, 0, none⟩) (v := .int .i64 0) (by simp [go_sem])
  have r1 := cell_below hb1 (a := ⟨w.heap.size + 1 + 1, 1, none⟩) (v := .int .i64 0) (by simp [go_sem])
  have r2 := cell_below hb1 (a := ⟨w.heap.size + 1 + 1, 2, none⟩) (v := .string ⟨#[]⟩) (by simp [go_sem])
  have ak := cell_below hb1 (a := ⟨w.heap.size, 0, none⟩) (v := .int .i64 a.k) (by simp [go_sem])
  have ai := cell_below hb1 (a := ⟨w.heap.size, 1, none⟩) (v := .int .i64 a.i) (by simp [go_sem])
  have bk := cell_below hb1 (a := ⟨w.heap.size + 1, 0, none⟩) (v := .int .i64 b.k) (by simp [go_sem])
  have bi := cell_below hb1 (a := ⟨w.heap.size + 1, 1, none⟩) (v := .int .i64 b.i) (by simp [go_sem])
  have hz0 : w.heap.size < w1.heap.size := by have := hb1.size; simp at this; omega
  have hz1 : w.heap.size + 1 < w1.heap.size := by have := hb1.size; simp at this; omega
  have hz2 : w.heap.size + 1 + 1 < w1.heap.size := by have := hb1.size; simp at this; omega
  have hy0 : w.heap.size < w1.heap.size + 1 := by omega
  have hy1 : w.heap.size + 1 < w1.heap.size + 1 := by omega
  have hx0 : w.heap.size < w1.heap.size + 1 + 1 := by omega
  have hx1 : w.heap.size + 1 < w1.heap.size + 1 + 1 := by omega
  obtain ⟨hc1, hf1⟩ := bcell hb1
  have hB := later (w := w) (by go_grown) hb1
  go_wp2_with fail
  refine wp_loop_rounds 3 ?_
  repeat any_goals (rw [rounds_succ]; go_wp2_with fail)
  refine bodyPost_ret (ret_cells3 rfl rfl (by first | with_reducible exact stored3 r0 r1 r2 | with_reducible exact cells3_alloc (stored3 r0 r1 r2) | with_reducible exact cells3_alloc (cells3_alloc (stored3 r0 r1 r2)) | with_reducible exact cells3_alloc (cells3_alloc (cells3_alloc (stored3 r0 r1 r2))) | with_reducible exact cells3_alloc (cells3_alloc (cells3_alloc (cells3_alloc (stored3 r0 r1 r2))))) (Tryd.isAgg23 _) (Tryd.sizeOf23 _)) rfl ?_
  exact Rets.mk rfl (by go_grown)

set_option maxHeartbeats 1000000 in
theorem RefArith47_kind1b (a b : GV) (w : World) (hq : (a.ok && b.ok) = true)
    (h0 : (a.k != 0) = true) (h0'' : (a.k == 0) = false) (h0' : (a.k != 2) = false) (h1 : (b.k != 0) = true) (h2 : (b.k != 2) = true) :
    Calls Tryd.prog 11 #[.string ⟨#[47]⟩, a.val, b.val] w (Rets (.tuple #[GV.none.val, .int .i64 20]) w) := by
  have hc := fun W v hv => ref_may2 a b v W hv
  rw [hq] at hc
  unfold GV.val
  clear hq
  go_enter Tryd.func11, Tryd.ntmps11
  go_wp2_with fail
  refine (hc _ _ (VS.made [a, b] (by simp) rfl rfl (by simp))).mono ?_
  rintro e w1 ⟨rfl, hb1⟩
  have r0 := cell_below hb1 (a := ⟨w.heap.size + 1 + 1, 0, none⟩) (v := .int .i64 0) (by simp [go_sem])
  have r1 := cell_below hb1 (a := ⟨w.heap.size + 1 + 1, 1, none⟩) (v := .int .i64 0) (by simp [go_sem])
  have r2 := cell_below hb1 (a := ⟨w.heap.size + 1 + 1, 2, none⟩) (v := .string ⟨#[]⟩) (by simp [go_sem])
  have ak := cell_below hb1 (a := ⟨w.heap.size, 0, none⟩) (v := .int .i64 a.k) (by simp [go_sem])
  have ai := cell_below hb1 (a := ⟨w.heap.size, 1, none⟩) (v := .int .i64 a.i) (by simp [go_sem])
  have bk := cell_below hb1 (a := ⟨w.heap.size + 1, 0, none⟩) (v := .int .i64 b.k) (by simp [go_sem])
  have bi := cell_below hb1 (a := ⟨w.heap.size + 1, 1, none⟩) (v := .int .i64 b.i) (by simp [go_sem])
  have hz0 : w.heap.size < w1.heap.size := by have := hb1.size; simp at this; omega
  have hz1 : w.heap.size + 1 < w1.heap.size := by have := hb1.size; simp at this; omega
  have hz2 : w.heap.size + 1 + 1 < w1.heap.size := by have := hb1.size; simp at this; omega
  have hy0 : w.heap.size < w1.heap.size + 1 := by omega
  have hy1 : w.heap.size + 1 < w1.heap.size + 1 := by omega
  have hx0 : w.heap.size < w1.heap.size + 1 + 1 := by omega
  have hx1 : w.heap.size + 1 < w1.heap.size + 1 + 1 := by omega
  obtain ⟨hc1, hf1⟩ := bcell hb1
  have hB := later (w := w) (by go_grown) hb1
  go_wp2_with fail
  refine wp_loop_rounds 3 ?_
  repeat any_goals (rw [rounds_succ]; go_wp2_with fail)
  refine bodyPost_ret (ret_cells3 rfl rfl (by first | with_reducible exact stored3 r0 r1 r2 | with_reducible exact cells3_alloc (stored3 r0 r1 r2) | with_reducible exact cells3_alloc (cells3_alloc (stored3 r0 r1 r2)) | with_reducible exact cells3_alloc (cells3_alloc (cells3_alloc (stored3 r0 r1 r2))) | with_reducible exact cells3_alloc (cells3_alloc (cells3_alloc (cells3_alloc (stored3 r0 r1 r2))))) (Tryd.isAgg23 _) (Tryd.sizeOf23 _)) rfl ?_
  exact Rets.mk rfl (by go_grown)

set_option maxHeartbeats 1000000 in
theorem RefArith47_nulla (a b : GV) (w : World) (hq : (a.ok && b.ok) = true)
    (h0 : (a.k != 0) = false) (h0'' : (a.k == 0) = true) (h1 : (b.k != 0) = false) (h1'' : (b.k == 0) = true) :
    Calls Tryd.prog 11 #[.string ⟨#[47]⟩, a.val, b.val] w (Rets (.tuple #[GV.none.val, .int .i64 0]) w) := by
  have hc := fun W v hv => ref_may2 a b v W hv
  rw [hq] at hc
  unfold GV.val
  clear hq
  go_enter Tryd.func11, Tryd.ntmps11
  go_wp2_with fail
  refine (hc _ _ (VS.made [a, b] (by simp) rfl rfl (by simp))).mono ?_
  rintro e w1 ⟨rfl, hb1⟩
  have r0 := cell_below hb1 (a := ⟨w.heap.size + 1 + 1, 0, none⟩) (v := .int .i64 0) (by simp [go_sem])
  have r1 := cell_below hb1 (a := ⟨w.heap.size + 1 + 1, 1, none⟩) (v := .int .i64 0) (by simp [go_sem])
  have r2 := cell_below hb1 (a := ⟨w.heap.size + 1 + 1, 2, none⟩) (v := .string ⟨#[]⟩) (by simp [go_sem])
  have ak := cell_below hb1 (a := ⟨w.heap.size, 0, none⟩) (v := .int .i64 a.k) (by simp [go_sem])
  have ai := cell_below hb1 (a := ⟨w.heap.size, 1, none⟩) (v := .int .i64 a.i) (by simp [go_sem])
  have bk := cell_below hb1 (a := ⟨w.heap.size + 1, 0, none⟩) (v := .int .i64 b.k) (by simp [go_sem])
  have bi := cell_below hb1 (a := ⟨w.heap.size + 1, 1, none⟩) (v := .int .i64 b.i) (by simp [go_sem])
  have hz0 : w.heap.size < w1.heap.size := by have := hb1.size; simp at this; omega
  have hz1 : w.heap.size + 1 < w1.heap.size := by have := hb1.size; simp at this; omega
  have hz2 : w.heap.size + 1 + 1 < w1.heap.size := by have := hb1.size; simp at this; omega
  have hy0 : w.heap.size < w1.heap.size + 1 := by omega
  have hy1 : w.heap.size + 1 < w1.heap.size + 1 := by omega
  have hx0 : w.heap.size < w1.heap.size + 1 + 1 := by omega
  have hx1 : w.heap.size + 1 < w1.heap.size + 1 + 1 := by omega
  obtain ⟨hc1, hf1⟩ := bcell hb1
  have hB := later (w := w) (by go_grown) hb1
  go_wp2_with fail
  refine wp_loop_rounds 3 ?_
  repeat any_goals (rw [rounds_succ]; go_wp2_with fail)
  refine bodyPost_ret (ret_cells3 rfl rfl (by first | with_reducible exact stored3 r0 r1 r2 | with_reducible exact cells3_alloc (stored3 r0 r1 r2) | with_reducible exact cells3_alloc (cells3_alloc (stored3 r0 r1 r2)) | with_reducible exact cells3_alloc (cells3_alloc (cells3_alloc (stored3 r0 r1 r2))) | with_reducible exact cells3_alloc (cells3_alloc (cells3_alloc (cells3_alloc (stored3 r0 r1 r2))))) (Tryd.isAgg23 _) (Tryd.sizeOf23 _)) rfl ?_
  exact Rets.mk rfl (by go_grown)

set_option maxHeartbeats 1000000 in
theorem RefArith47_nullb (a b : GV) (w : World) (hq : (a.ok && b.ok) = true)
    (h0 : (a.k != 0) = false) (h0'' : (a.k == 0) = true) (h1 : (b.k != 0) = true) (h1'' : (b.k == 0) = false) (h1' : (b.k != 2) = false) :
    Calls Tryd.prog 11 #[.string ⟨#[47]⟩, a.val, b.val] w (Rets (.tuple #[GV.none.val, .int .i64 0]) w) := by
  have hc := fun W v hv => ref_may2 a b v W hv
  rw [hq] at hc
  unfold GV.val
  clear hq
  go_enter Tryd.func11, Tryd.ntmps11
  go_wp2_with fail
  refine (hc _ _ (VS.made [a, b] (by simp) rfl rfl (by simp))).mono ?_
  rintro e w1 ⟨rfl, hb1⟩
  have r0 := cell_below hb1 (a := ⟨w.heap.size + 1 + 1, 0, none⟩) (v := .int .i64 0) (by simp [go_sem])
  have r1 := cell_below hb1 (a := ⟨w.heap.size + 1 + 1, 1, none⟩) (v := .int .i64 0) (by simp [go_sem])
  have r2 := cell_below hb1 (a := ⟨w.heap.size + 1 + 1, 2, none⟩) (v := .string ⟨#[]⟩) (by simp [go_sem])
  have ak := cell_below hb1 (a := ⟨w.heap.size, 0, none⟩) (v := .int .i64 a.k) (by simp [go_sem])
  have ai := cell_below hb1 (a := ⟨w.heap.size, 1, none⟩) (v := .int .i64 a.i) (by simp [go_sem])
  have bk := cell_below hb1 (a := ⟨w.heap.size + 1, 0, none⟩) (v := .int .i64 b.k) (by simp [go_sem])
  have bi := cell_below hb1 (a := ⟨w.heap.size + 1, 1, none⟩) (v := .int .i64 b.i) (by simp [go_sem])
  have hz0 : w.heap.size < w1.heap.size := by have := hb1.size; simp at this; omega
  have hz1 : w.heap.size + 1 < w1.heap.size := by have := hb1.size; simp at this; omega
  have hz2 : w.heap.size + 1 + 1 < w1.heap.size := by have := hb1.size; simp at this; omega
  have hy0 : w.heap.size < w1.heap.size + 1 := by omega
  have hy1 : w.heap.size + 1 < w1.heap.size + 1 := by omega
  have hx0 : w.heap.size < w1.heap.size + 1 + 1 := by omega
  have hx1 : w.heap.size + 1 < w1.heap.size + 1 + 1 := by omega
  obtain ⟨hc1, hf1⟩ := bcell hb1
  have hB := later (w := w) (by go_grown) hb1
  go_wp2_with fail
  refine wp_loop_rounds 3 ?_
  repeat any_goals (rw [rounds_succ]; go_wp2_with fail)
  refine bodyPost_ret (ret_cells3 rfl rfl (by first | with_reducible exact stored3 r0 r1 r2 | with_reducible exact cells3_alloc (stored3 r0 r1 r2) | with_reducible exact cells3_alloc (cells3_alloc (stored3 r0 r1 r2)) | with_reducible exact cells3_alloc (cells3_alloc (cells3_alloc (stored3 r0 r1 r2))) | with_reducible exact cells3_alloc (cells3_alloc (cells3_alloc (cells3_alloc (stored3 r0 r1 r2))))) (Tryd.isAgg23 _) (Tryd.sizeOf23 _)) rfl ?_
  exact Rets.mk rfl (by go_grown)

set_option maxHeartbeats 1000000 in
theorem RefArith47_nullc (a b : GV) (w : World) (hq : (a.ok && b.ok) = true)
    (h0 : (a.k != 0) = true) (h0'' : (a.k == 0) = false) (h0' : (a.k != 2) = false) (h1 : (b.k != 0) = false) (h1'' : (b.k == 0) = true) :
    Calls Tryd.prog 11 #[.string ⟨#[47]⟩, a.val, b.val] w (Rets (.tuple #[GV.none.val, .int .i64 0]) w) := by
  have hc := fun W v hv => ref_may2 a b v W hv
  rw [hq] at hc
  unfold GV.val
  clear hq
  go_enter Tryd.func11, Tryd.ntmps11
  go_wp2_with fail
  refine (hc _ _ (VS.made [a, b] (by simp) rfl rfl (by simp))).mono ?_
  rintro e w1 ⟨rfl, hb1⟩
  have r0 := cell_below hb1 (a := ⟨w.heap.size + 1 + 1, 0, none⟩) (v := .int .i64 0) (by simp [go_sem])
  have r1 := cell_below hb1 (a := ⟨w.heap.size + 1 + 1, 1, none⟩) (v := .int .i64 0) (by simp [go_sem])
  have r2 := cell_below hb1 (a := ⟨w.heap.size + 1 + 1, 2, none⟩) (v := .string ⟨#[]⟩) (by simp [go_sem])
  have ak := cell_below hb1 (a := ⟨w.heap.size, 0, none⟩) (v := .int .i64 a.k) (by simp [go_sem])
  have ai := cell_below hb1 (a := ⟨w.heap.size, 1, none⟩) (v := .int .i64 a.i) (by simp [go_sem])
  have bk := cell_below hb1 (a := ⟨w.heap.size + 1, 0, none⟩) (v := .int .i64 b.k) (by simp [go_sem])
  have bi := cell_below hb1 (a := ⟨w.heap.size + 1, 1, none⟩) (v := .int .i64 b.i) (by simp [go_sem])
  have hz0 : w.heap.size < w1.heap.size := by have := hb1.size; simp at this; omega
  have hz1 : w.heap.size + 1 < w1.heap.size := by have := hb1.size; simp at this; omega
  have hz2 : w.heap.size + 1 + 1 < w1.heap.size := by have := hb1.size; simp at this; omega
  have hy0 : w.heap.size < w1.heap.size + 1 := by omega
  have hy1 : w.heap.size + 1 < w1.heap.size + 1 := by omega
  have hx0 : w.heap.size < w1.heap.size + 1 + 1 := by omega
  have hx1 : w.heap.size + 1 < w1.heap.size + 1 + 1 := by omega
  obtain ⟨hc1, hf1⟩ := bcell hb1
  have hB := later (w := w) (by go_grown) hb1
  go_wp2_with fail
  refine wp_loop_rounds 3 ?_
  repeat any_goals (rw [rounds_succ]; go_wp2_with fail)
  refine bodyPost_ret (ret_cells3 rfl rfl (by first | with_reducible exact stored3 r0 r1 r2 | with_reducible exact cells3_alloc (stored3 r0 r1 r2) | with_reducible exact cells3_alloc (cells3_alloc (stored3 r0 r1 r2)) | with_reducible exact cells3_alloc (cells3_alloc (cells3_alloc (stored3 r0 r1 r2))) | with_reducible exact cells3_alloc (cells3_alloc (cells3_alloc (cells3_alloc (stored3 r0 r1 r2))))) (Tryd.isAgg23 _) (Tryd.sizeOf23 _)) rfl ?_
  exact Rets.mk rfl (by go_grown)

set_option maxHeartbeats 1000000 in
theorem RefArith47_err (a b : GV) (w : World) (hq : (a.ok && b.ok) = true)
    (h0 : (a.k != 0) = true) (h0'' : (a.k == 0) = false) (h0' : (a.k != 2) = false) (h1 : (b.k != 0) = true) (h1'' : (b.k == 0) = false) (h1' : (b.k != 2) = false) (n er : Int) (hr : ∀ W, Calls Tryd.prog 28 #[.string ⟨#[47]⟩, .int .i64 a.i, .int .i64 b.i] W (Rets (.tuple #[.int .i64 n, .int .i64 er]) W)) (her : (er != 0) = true) :
    Calls Tryd.prog 11 #[.string ⟨#[47]⟩, a.val, b.val] w (Rets (.tuple #[GV.none.val, .int .i64 er]) w) := by
  have hc := fun W v hv => ref_may2 a b v W hv
  rw [hq] at hc
  unfold GV.val
  clear hq
  go_enter Tryd.func11, Tryd.ntmps11
  go_wp2_with fail
  refine (hc _ _ (VS.made [a, b] (by simp) rfl rfl (by simp))).mono ?_
  rintro e w1 ⟨rfl, hb1⟩
  have r0 := cell_below hb1 (a := ⟨w.heap.size + 1 + 1, 0, none⟩) (v := .int .i64 0) (by simp [go_sem])
  have r1 := cell_below hb1 (a := ⟨w.heap.size + 1 + 1, 1, none⟩) (v := .int .i64 0) (by simp [go_sem])
  have r2 := cell_below hb1 (a := ⟨w.heap.size + 1 + 1, 2, none⟩) (v := .string ⟨#[]⟩) (by simp [go_sem])
  have ak := cell_below hb1 (a := ⟨w.heap.size, 0, none⟩) (v := .int .i64 a.k) (by simp [go_sem])
  have ai := cell_below hb1 (a := ⟨w.heap.size, 1, none⟩) (v := .int .i64 a.i) (by simp [go_sem])
  have bk := cell_below hb1 (a := ⟨w.heap.size + 1, 0, none⟩) (v := .int .i64 b.k) (by simp [go_sem])
  have bi := cell_below hb1 (a := ⟨w.heap.size + 1, 1, none⟩) (v := .int .i64 b.i) (by simp [go_sem])
  have hz0 : w.heap.size < w1.heap.size := by have := hb1.size; simp at this; omega
  have hz1 : w.heap.size + 1 < w1.heap.size := by have := hb1.size; simp at this; omega
  have hz2 : w.heap.size + 1 + 1 < w1.heap.size := by have := hb1.size; simp at this; omega
  have hy0 : w.heap.size < w1.heap.size + 1 := by omega
  have hy1 : w.heap.size + 1 < w1.heap.size + 1 := by omega
  have hx0 : w.heap.size < w1.heap.size + 1 + 1 := by omega
  have hx1 : w.heap.size + 1 < w1.heap.size + 1 + 1 := by omega
  obtain ⟨hc1, hf1⟩ := bcell hb1
  have hB := later (w := w) (by go_grown) hb1
  go_wp2_with fail
  refine wp_loop_rounds 3 ?_
  repeat any_goals (rw [rounds_succ]; go_wp2_with fail)
  refine (hr _).mono ?_
  rintro e w3 ⟨rfl, hb3⟩
  have q0 := cell_below hb3 (cell_alloc (cell_alloc (cell_alloc r0)))
  have q1 := cell_below hb3 (cell_alloc (cell_alloc (cell_alloc r1)))
  have q2 := cell_below hb3 (cell_alloc (cell_alloc (cell_alloc r2)))
  have fz := bcell hb3
  have hB3 := later (w := w) (by go_grown) hb3
  have hz32 : w.heap.size + 1 + 1 < w3.heap.size := by have := hb3.size; simp at this; omega
  have f0 : w3.frozen? ⟨w.heap.size + 1 + 1, 0, none⟩ = false := by rw [fz.2 _ _ (by simp; omega)]; simp [go_sem, *]
  have f1 : w3.frozen? ⟨w.heap.size + 1 + 1, 1, none⟩ = false := by rw [fz.2 _ _ (by simp; omega)]; simp [go_sem, *]
  have f2 : w3.frozen? ⟨w.heap.size + 1 + 1, 2, none⟩ = false := by rw [fz.2 _ _ (by simp; omega)]; simp [go_sem, *]
  clear hc1 hf1 fz r0 r1 r2 hB hz0 hz1 hz2 hy0 hy1 hx0 hx1 hc ak ai bk bi
  go_wp2
  refine bodyPost_ret (ret_cells3 rfl rfl (by first | with_reducible exact stored3 q0 q1 q2 | with_reducible exact cells3_alloc (stored3 q0 q1 q2) | with_reducible exact cells3_alloc (cells3_alloc (stored3 q0 q1 q2)) | with_reducible exact cells3_alloc (cells3_alloc (cells3_alloc (stored3 q0 q1 q2))) | with_reducible exact cells3_alloc (cells3_alloc (cells3_alloc (cells3_alloc (stored3 q0 q1 q2))))) (Tryd.isAgg23 _) (Tryd.sizeOf23 _)) rfl ?_
  exact Rets.mk rfl (by go_grown)

set_option maxHeartbeats 1000000 in
theorem RefArith47_ok (a b : GV) (w : World) (hq : (a.ok && b.ok) = true)
    (h0 : (a.k != 0) = true) (h0'' : (a.k == 0) = false) (h0' : (a.k != 2) = false) (h1 : (b.k != 0) = true) (h1'' : (b.k == 0) = false) (h1' : (b.k != 2) = false) (n : Int) (hr : ∀ W, Calls Tryd.prog 28 #[.string ⟨#[47]⟩, .int .i64 a.i, .int .i64 b.i] W (Rets (.tuple #[.int .i64 n, .int .i64 0]) W)) :
    Calls Tryd.prog 11 #[.string ⟨#[47]⟩, a.val, b.val] w (Rets (.tuple #[(GV.num n).val, .int .i64 0]) w) := by
  have hc := fun W v hv => ref_may2 a b v W hv
  rw [hq] at hc
  have hnum := ref_Int1 n
  unfold GV.val
  clear hq
  go_enter Tryd.func11, Tryd.ntmps11
  go_wp2_with fail
  refine (hc _ _ (VS.made [a, b] (by simp) rfl rfl (by simp))).mono ?_
  rintro e w1 ⟨rfl, hb1⟩
  have r0 := cell_below hb1 (a := ⟨w.heap.size + 1 + 1, 0, none⟩) (v := .int .i64 0) (by simp [go_sem])
  have r1 := cell_below hb1 (a := ⟨w.heap.size + 1 + 1, 1, none⟩) (v := .int .i64 0) (by simp [go_sem])
  have r2 := cell_below hb1 (a := ⟨w.heap.size + 1 + 1, 2, none⟩) (v := .string ⟨#[]⟩) (by simp [go_sem])
  have ak := cell_below hb1 (a := ⟨w.heap.size, 0, none⟩) (v := .int .i64 a.k) (by simp [go_sem])
  have ai := cell_below hb1 (a := ⟨w.heap.size, 1, none⟩) (v := .int .i64 a.i) (by simp [go_sem])
  have bk := cell_below hb1 (a := ⟨w.heap.size + 1, 0, none⟩) (v := .int .i64 b.k) (by simp [go_sem])
  have bi := cell_below hb1 (a := ⟨w.heap.size + 1, 1, none⟩) (v := .int .i64 b.i) (by simp [go_sem])
  have hz0 : w.heap.size < w1.heap.size := by have := hb1.size; simp at this; omega
  have hz1 : w.heap.size + 1 < w1.heap.size := by have := hb1.size; simp at this; omega
  have hz2 : w.heap.size + 1 + 1 < w1.heap.size := by have := hb1.size; simp at this; omega
  have hy0 : w.heap.size < w1.heap.size + 1 := by omega
  have hy1 : w.heap.size + 1 < w1.heap.size + 1 := by omega
  have hx0 : w.heap.size < w1.heap.size + 1 + 1 := by omega
  have hx1 : w.heap.size + 1 < w1.heap.size + 1 + 1 := by omega
  obtain ⟨hc1, hf1⟩ := bcell hb1
  have hB := later (w := w) (by go_grown) hb1
  go_wp2_with fail
  refine wp_loop_rounds 3 ?_
  repeat any_goals (rw [rounds_succ]; go_wp2_with fail)
  refine (hr _).mono ?_
  rintro e w3 ⟨rfl, hb3⟩
  have q0 := cell_below hb3 (cell_alloc (cell_alloc (cell_alloc r0)))
  have q1 := cell_below hb3 (cell_alloc (cell_alloc (cell_alloc r1)))
  have q2 := cell_below hb3 (cell_alloc (cell_alloc (cell_alloc r2)))
  have fz := bcell hb3
  have hB3 := later (w := w) (by go_grown) hb3
  have hz32 : w.heap.size + 1 + 1 < w3.heap.size := by have := hb3.size; simp at this; omega
  have f0 : w3.frozen? ⟨w.heap.size + 1 + 1, 0, none⟩ = false := by rw [fz.2 _ _ (by simp; omega)]; simp [go_sem, *]
  have f1 : w3.frozen? ⟨w.heap.size + 1 + 1, 1, none⟩ = false := by rw [fz.2 _ _ (by simp; omega)]; simp [go_sem, *]
  have f2 : w3.frozen? ⟨w.heap.size + 1 + 1, 2, none⟩ = false := by rw [fz.2 _ _ (by simp; omega)]; simp [go_sem, *]
  clear hc1 hf1 fz r0 r1 r2 hB hz0 hz1 hz2 hy0 hy1 hx0 hx1 hc ak ai bk bi
  go_wp2_with fail
  refine (hnum _).mono ?_
  rintro e w5 ⟨rfl, hb5⟩
  have o0 := cell_below hb5 q0
  have o1 := cell_below hb5 q1
  have o2 := cell_below hb5 q2
  have e0 : w5.frozen? ⟨w.heap.size + 1 + 1, 0, none⟩ = false := by rw [(bcell hb5).2 _ _ hz32]; exact f0
  have e1 : w5.frozen? ⟨w.heap.size + 1 + 1, 1, none⟩ = false := by rw [(bcell hb5).2 _ _ hz32]; exact f1
  have e2 : w5.frozen? ⟨w.heap.size + 1 + 1, 2, none⟩ = false := by rw [(bcell hb5).2 _ _ hz32]; exact f2
  have hB5 := later hB3 hb5
  clear q0 q1 q2 f0 f1 f2 hB3 hz32
  unfold GV.val GV.num
  go_wp2
  refine bodyPost_ret (ret_cells3 rfl rfl (by first | with_reducible exact stored3 o0 o1 o2 | with_reducible exact cells3_alloc (stored3 o0 o1 o2) | with_reducible exact cells3_alloc (cells3_alloc (stored3 o0 o1 o2)) | with_reducible exact cells3_alloc (cells3_alloc (cells3_alloc (stored3 o0 o1 o2))) | with_reducible exact cells3_alloc (cells3_alloc (cells3_alloc (cells3_alloc (stored3 o0 o1 o2))))) (Tryd.isAgg23 _) (Tryd.sizeOf23 _)) rfl ?_
  exact Rets.mk rfl (by go_grown)

theorem RefArith47 (a b : GV) (w : World) (ha : I64 a.i) (hb : I64 b.i) (hq : (a.ok && b.ok) = true) :
    Calls Tryd.prog 11 #[.string ⟨#[47]⟩, a.val, b.val] w (Rets (.tuple #[(arithS [47] a b).1.val, .int .i64 (arithS [47] a b).2]) w) := by
  unfold arithS
  rw [hq, show signs.contains [47] = true from rfl]
  simp only [Bool.not_true, Bool.false_eq_true, if_false]
  have hr := fun W => ref_arith_quo a.i b.i W ha
  cases g0 : (a.k == 0) with
  | true =>
    have h0 : (a.k != 0) = false := by rw [bne, g0]; rfl
    rw [h0]
    cases g1 : (b.k == 0) with
    | true =>
      have h1 : (b.k != 0) = false := by rw [bne, g1]; rfl
      rw [h1]
      exact RefArith47_nulla a b w hq h0 g0 h1 g1
    | false =>
      have h1 : (b.k != 0) = true := by rw [bne, g1]; rfl
      rw [h1]
      cases h3 : (b.k != 2) with
      | true => exact RefArith47_kind1a a b w hq h0 g0 h1 h3
      | false => exact RefArith47_nullb a b w hq h0 g0 h1 g1 h3
  | false =>
    have h0 : (a.k != 0) = true := by rw [bne, g0]; rfl
    rw [h0]
    cases h2 : (a.k != 2) with
    | true => exact RefArith47_kind0 a b w hq h0 h2
    | false =>
      cases g1 : (b.k == 0) with
      | true =>
        have h1 : (b.k != 0) = false := by rw [bne, g1]; rfl
        rw [h1]
        exact RefArith47_nullc a b w hq h0 g0 h2 h1 g1
      | false =>
        have h1 : (b.k != 0) = true := by rw [bne, g1]; rfl
        rw [h1]
        cases h3 : (b.k != 2) with
        | true => exact RefArith47_kind1b a b w hq h0 g0 h2 h1 h3
        | false =>
          cases he : ((reckonS [47] a.i b.i).2 != 0) with
          | true => exact RefArith47_err a b w hq h0 g0 h2 h1 g1 h3 _ _ hr he
          | false =>
            have he' : (reckonS [47] a.i b.i).2 = 0 := by simpa using he
            rw [he'] at hr
            exact RefArith47_ok a b w hq h0 g0 h2 h1 g1 h3 _ hr

set_option maxHeartbeats 1000000 in
theorem RefArith37_kind0 (a b : GV) (w : World) (hq : (a.ok && b.ok) = true)
    (h0 : (a.k != 0) = true) (h2 : (a.k != 2) = true) :
    Calls Tryd.prog 11 #[.string ⟨#[37]⟩, a.val, b.val] w (Rets (.tuple #[GV.none.val, .int .i64 20]) w) := by
  have hc := fun W v hv => ref_may2 a b v W hv
  rw [hq] at hc
  unfold GV.val
  clear hq
  go_enter Tryd.func11, Tryd.ntmps11
  go_wp2_with fail
  refine (hc _ _ (VS.made [a, b] (by simp) rfl rfl (by simp))).mono ?_
  rintro e w1 ⟨rfl, hb1⟩
  have r0 := cell_below hb1 (a := ⟨w.heap.size + 1 + 1, 0, none⟩) (v := .int .i64 0) (by simp [go_sem])
  have r1 := cell_below hb1 (a := ⟨w.heap.size + 1 + 1, 1, none⟩) (v := .int .i64 0) (by simp [go_sem])
  have r2 := cell_below hb1 (a := ⟨w.heap.size + 1 + 1, 2, none⟩) (v := .string ⟨#[]⟩) (by simp [go_sem])
  have ak := cell_below hb1 (a := ⟨w.heap.size, 0, none⟩) (v := .int .i64 a.k) (by simp [go_sem])
  have ai := cell_below hb1 (a := ⟨w.heap.size, 1, none⟩) (v := .int .i64 a.i) (by simp [go_sem])
  have bk := cell_below hb1 (a := ⟨w.heap.size + 1, 0, none⟩) (v := .int .i64 b.k) (by simp [go_sem])
  have bi := cell_below hb1 (a := ⟨w.heap.size + 1, 1, none⟩) (v := .int .i64 b.i) (by simp [go_sem])
  have hz0 : w.heap.size < w1.heap.size := by have := hb1.size; simp at this; omega
  have hz1 : w.heap.size + 1 < w1.heap.size := by have := hb1.size; simp at this; omega
  have hz2 : w.heap.size + 1 + 1 < w1.heap.size := by have := hb1.size; simp at this; omega
  have hy0 : w.heap.size < w1.heap.size + 1 := by omega
  have hy1 : w.heap.size + 1 < w1.heap.size + 1 := by omega
  have hx0 : w.heap.size < w1.heap.size + 1 + 1 := by omega
  have hx1 : w.heap.size + 1 < w1.heap.size + 1 + 1 := by omega
  obtain ⟨hc1, hf1⟩ := bcell hb1
  have hB := later (w := w) (by go_grown) hb1
  go_wp2_with fail
  refine wp_loop_rounds 3 ?_
  repeat any_goals (rw [rounds_succ]; go_wp2_with fail)
  refine bodyPost_ret (ret_cells3 rfl rfl (by first | with_reducible exact stored3 r0 r1 r2 | with_reducible exact cells3_alloc (stored3 r0 r1 r2) | with_reducible exact cells3_alloc (cells3_alloc (stored3 r0 r1 r2)) | with_reducible exact cells3_alloc (cells3_alloc (cells3_alloc (stored3 r0 r1 r2))) | with_reducible exact cells3_alloc (cells3_alloc (cells3_alloc (cells3_alloc (stored3 r0 r1 r2))))) (Tryd.isAgg23 _) (Tryd.sizeOf23 _)) rfl ?_
  exact Rets.mk rfl (by go_grown)

set_option maxHeartbeats 1000000 in
theorem RefArith37_kind1a (a b : GV) (w : World) (hq : (a.ok && b.ok) = true)
    (h0 : (a.k != 0) = false) (h0'' : (a.k == 0) = true) (h1 : (b.k != 0) = true) (h2 : (b.k != 2) = true) :
    Calls Tryd.prog 11 #[.string ⟨#[37]⟩, a.val, b.val] w (Rets (.tuple #[GV.none.val, .int .i64 20]) w) := by
  have hc := fun W v hv => ref_may2 a b v W hv
  rw [hq] at hc
  unfold GV.val
  clear hq
  go_enter Tryd.func11, Tryd.ntmps11
  go_wp2_with fail
  refine (hc _ _ (VS.made [a, b] (by simp) rfl rfl (by simp))).mono ?_
  rintro e w1 ⟨rfl, hb1⟩
  have r0 := cell_below hb1 (a := ⟨w.heap.size + 1 + 1, 0, none⟩) (v := .int .i64 0) (by simp [go_sem])
  have r1 := cell_below hb1 (a := ⟨w.heap.size + 1 + 1, 1, none⟩) (v := .int .i64 0) (by simp [go_sem])
  have r2 := cell_below hb1 (a := ⟨w.heap.size + 1 + 1, 2, none⟩) (v := .string ⟨#[]⟩) (by simp [go_sem])
  have ak := cell_below hb1 (a := ⟨w.heap.size, 0, none⟩) (v := .int .i64 a.k) (by simp [go_sem])
  have ai := cell_below hb1 (a := ⟨w.heap.size, 1, none⟩) (v := .int .i64 a.i) (by simp [go_sem])
  have bk := cell_below hb1 (a := ⟨w.heap.size + 1, 0, none⟩) (v := .int .i64 b.k) (by simp [go_sem])
  have bi := cell_below hb1 (a := ⟨w.heap.size + 1, 1, none⟩) (v := .int .i64 b.i) (by simp [go_sem])
  have hz0 : w.heap.size < w1.heap.size := by have := hb1.size; simp at this; omega
  have hz1 : w.heap.size + 1 < w1.heap.size := by have := hb1.size; simp at this; omega
  have hz2 : w.heap.size + 1 + 1 < w1.heap.size := by have := hb1.size; simp at this; omega
  have hy0 : w.heap.size < w1.heap.size + 1 := by omega
  have hy1 : w.heap.size + 1 < w1.heap.size + 1 := by omega
  have hx0 : w.heap.size < w1.heap.size + 1 + 1 := by omega
  have hx1 : w.heap.size + 1 < w1.heap.size + 1 + 1 := by omega
  obtain ⟨hc1, hf1⟩ := bcell hb1
  have hB := later (w := w) (by go_grown) hb1
  go_wp2_with fail
  refine wp_loop_rounds 3 ?_
  repeat any_goals (rw [rounds_succ]; go_wp2_with fail)
  refine bodyPost_ret (ret_cells3 rfl rfl (by first | with_reducible exact stored3 r0 r1 r2 | with_reducible exact cells3_alloc (stored3 r0 r1 r2) | with_reducible exact cells3_alloc (cells3_alloc (stored3 r0 r1 r2)) | with_reducible exact cells3_alloc (cells3_alloc (cells3_alloc (stored3 r0 r1 r2))) | with_reducible exact cells3_alloc (cells3_alloc (cells3_alloc (cells3_alloc (stored3 r0 r1 r2))))) (Tryd.isAgg23 _) (Tryd.sizeOf23 _)) rfl ?_
  exact Rets.mk rfl (by go_grown)

set_option maxHeartbeats 1000000 in
theorem RefArith37_kind1b (a b : GV) (w : World) (hq : (a.ok && b.ok) = true)
    (h0 : (a.k != 0) = true) (h0'' : (a.k == 0) = false) (h0' : (a.k != 2) = false) (h1 : (b.k != 0) = true) (h2 : (b.k != 2) = true) :
    Calls Tryd.prog 11 #[.string ⟨#[37]⟩, a.val, b.val] w (Rets (.tuple #[GV.none.val, .int .i64 20]) w) := by
  have hc := fun W v hv => ref_may2 a b v W hv
  rw [hq] at hc
  unfold GV.val
  clear hq
  go_enter Tryd.func11, Tryd.ntmps11
  go_wp2_with fail
  refine (hc _ _ (VS.made [a, b] (by simp) rfl rfl (by simp))).mono ?_
  rintro e w1 ⟨rfl, hb1⟩
  have r0 := cell_below hb1 (a := ⟨w.heap.size + 1 + 1, 0, none⟩) (v := .int .i64 0) (by simp [go_sem])
  have r1 := cell_below hb1 (a := ⟨w.heap.size + 1 + 1, 1, none⟩) (v := .int .i64 0) (by simp [go_sem])
  have r2 := cell_below hb1 (a := ⟨w.heap.size + 1 + 1, 2, none⟩) (v := .string ⟨#[]⟩) (by simp [go_sem])
  have ak := cell_below hb1 (a := ⟨w.heap.size, 0, none⟩) (v := .int .i64 a.k) (by simp [go_sem])
  have ai := cell_below hb1 (a := ⟨w.heap.size, 1, none⟩) (v := .int .i64 a.i) (by simp [go_sem])
  have bk := cell_below hb1 (a := ⟨w.heap.size + 1, 0, none⟩) (v := .int .i64 b.k) (by simp [go_sem])
  have bi := cell_below hb1 (a := ⟨w.heap.size + 1, 1, none⟩) (v := .int .i64 b.i) (by simp [go_sem])
  have hz0 : w.heap.size < w1.heap.size := by have := hb1.size; simp at this; omega
  have hz1 : w.heap.size + 1 < w1.heap.size := by have := hb1.size; simp at this; omega
  have hz2 : w.heap.size + 1 + 1 < w1.heap.size := by have := hb1.size; simp at this; omega
  have hy0 : w.heap.size < w1.heap.size + 1 := by omega
  have hy1 : w.heap.size + 1 < w1.heap.size + 1 := by omega
  have hx0 : w.heap.size < w1.heap.size + 1 + 1 := by omega
  have hx1 : w.heap.size + 1 < w1.heap.size + 1 + 1 := by omega
  obtain ⟨hc1, hf1⟩ := bcell hb1
  have hB := later (w := w) (by go_grown) hb1
  go_wp2_with fail
  refine wp_loop_rounds 3 ?_
  repeat any_goals (rw [rounds_succ]; go_wp2_with fail)
  refine bodyPost_ret (ret_cells3 rfl rfl (by first | with_reducible exact stored3 r0 r1 r2 | with_reducible exact cells3_alloc (stored3 r0 r1 r2) | with_reducible exact cells3_alloc (cells3_alloc (stored3 r0 r1 r2)) | with_reducible exact cells3_alloc (cells3_alloc (cells3_alloc (stored3 r0 r1 r2))) | with_reducible exact cells3_alloc (cells3_alloc (cells3_alloc (cells3_alloc (stored3 r0 r1 r2))))) (Tryd.isAgg23 _) (Tryd.sizeOf23 _)) rfl ?_
  exact Rets.mk rfl (by go_grown)

set_option maxHeartbeats 1000000 in
theorem RefArith37_nulla (a b : GV) (w : World) (hq : (a.ok && b.ok) = true)
    (h0 : (a.k != 0) = false) (h0'' : (a.k == 0) = true) (h1 : (b.k != 0) = false) (h1'' : (b.k == 0) = true) :
    Calls Tryd.prog 11 #[.string ⟨#[37]⟩, a.val, b.val] w (Rets (.tuple #[GV.none.val, .int .i64 0]) w) := by
  have hc := fun W v hv => ref_may2 a b v W hv
  rw [hq] at hc
  unfold GV.val
  clear hq
  go_enter Tryd.func11, Tryd.ntmps11
  go_wp2_with fail
  refine (hc _ _ (VS.made [a, b] (by simp) rfl rfl (by simp))).mono ?_
  rintro e w1 ⟨rfl, hb1⟩
  have r0 := cell_below hb1 (a := ⟨w.heap.size + 1 + 1, 0, none⟩) (v := .int .i64 0) (by simp [go_sem])
  have r1 := cell_below hb1 (a := ⟨w.heap.size + 1 + 1, 1, none⟩) (v := .int .i64 0) (by simp [go_sem])
  have r2 := cell_below hb1 (a := ⟨w.heap.size + 1 + 1, 2, none⟩) (v := .string ⟨#[]⟩) (by simp [go_sem])
  have ak := cell_below hb1 (a := ⟨w.heap.size, 0, none⟩) (v := .int .i64 a.k) (by simp [go_sem])
  have ai := cell_below hb1 (a := ⟨w.heap.size, 1, none⟩) (v := .int .i64 a.i) (by simp [go_sem])
  have bk := cell_below hb1 (a := ⟨w.heap.size + 1, 0, none⟩) (v := .int .i64 b.k) (by simp [go_sem])
  have bi := cell_below hb1 (a := ⟨w.heap.size + 1, 1, none⟩) (v := .int .i64 b.i) (by simp [go_sem])
  have hz0 : w.heap.size < w1.heap.size := by have := hb1.size; simp at this; omega
  have hz1 : w.heap.size + 1 < w1.heap.size := by have := hb1.size; simp at this; omega
  have hz2 : w.heap.size + 1 + 1 < w1.heap.size := by have := hb1.size; simp at this; omega
  have hy0 : w.heap.size < w1.heap.size + 1 := by omega
  have hy1 : w.heap.size + 1 < w1.heap.size + 1 := by omega
  have hx0 : w.heap.size < w1.heap.size + 1 + 1 := by omega
  have hx1 : w.heap.size + 1 < w1.heap.size + 1 + 1 := by omega
  obtain ⟨hc1, hf1⟩ := bcell hb1
  have hB := later (w := w) (by go_grown) hb1
  go_wp2_with fail
  refine wp_loop_rounds 3 ?_
  repeat any_goals (rw [rounds_succ]; go_wp2_with fail)
  refine bodyPost_ret (ret_cells3 rfl rfl (by first | with_reducible exact stored3 r0 r1 r2 | with_reducible exact cells3_alloc (stored3 r0 r1 r2) | with_reducible exact cells3_alloc (cells3_alloc (stored3 r0 r1 r2)) | with_reducible exact cells3_alloc (cells3_alloc (cells3_alloc (stored3 r0 r1 r2))) | with_reducible exact cells3_alloc (cells3_alloc (cells3_alloc (cells3_alloc (stored3 r0 r1 r2))))) (Tryd.isAgg23 _) (Tryd.sizeOf23 _)) rfl ?_
  exact Rets.mk rfl (by go_grown)

set_option maxHeartbeats 1000000 in
theorem RefArith37_nullb (a b : GV) (w : World) (hq : (a.ok && b.ok) = true)
    (h0 : (a.k != 0) = false) (h0'' : (a.k == 0) = true) (h1 : (b.k != 0) = true) (h1'' : (b.k == 0) = false) (h1' : (b.k != 2) = false) :
    Calls Tryd.prog 11 #[.string ⟨#[37]⟩, a.val, b.val] w (Rets (.tuple #[GV.none.val, .int .i64 0]) w) := by
  have hc := fun W v hv => ref_may2 a b v W hv
  rw [hq] at hc
  unfold GV.val
  clear hq
  go_enter Tryd.func11, Tryd.ntmps11
  go_wp2_with fail
  refine (hc _ _ (VS.made [a, b] (by simp) rfl rfl (by simp))).mono ?_
  rintro e w1 ⟨rfl, hb1⟩
  have r0 := cell_below hb1 (a := ⟨w.heap.size + 1 + 1, 0, none⟩) (v := .int .i64 0) (by simp [go_sem])
  have r1 := cell_below hb1 (a := ⟨w.heap.size + 1 + 1, 1, none⟩) (v := .int .i64 0) (by simp [go_sem])
  have r2 := cell_below hb1 (a := ⟨w.heap.size + 1 + 1, 2, none⟩) (v := .string ⟨#[]⟩) (by simp [go_sem])
  have ak := cell_below hb1 (a := ⟨w.heap.size, 0, none⟩) (v := .int .i64 a.k) (by simp [go_sem])
  have ai := cell_below hb1 (a := ⟨w.heap.size, 1, none⟩) (v := .int .i64 a.i) (by simp [go_sem])
  have bk := cell_below hb1 (a := ⟨w.heap.size + 1, 0, none⟩) (v := .int .i64 b.k) (by simp [go_sem])
  have bi := cell_below hb1 (a := ⟨w.heap.size + 1, 1, none⟩) (v := .int .i64 b.i) (by simp [go_sem])
  have hz0 : w.heap.size < w1.heap.size := by have := hb1.size; simp at this; omega
  have hz1 : w.heap.size + 1 < w1.heap.size := by have := hb1.size; simp at this; omega
  have hz2 : w.heap.size + 1 + 1 < w1.heap.size := by have := hb1.size; simp at this; omega
  have hy0 : w.heap.size < w1.heap.size + 1 := by omega
  have hy1 : w.heap.size + 1 < w1.heap.size + 1 := by omega
  have hx0 : w.heap.size < w1.heap.size + 1 + 1 := by omega
  have hx1 : w.heap.size + 1 < w1.heap.size + 1 + 1 := by omega
  obtain ⟨hc1, hf1⟩ := bcell hb1
  have hB := later (w := w) (by go_grown) hb1
  go_wp2_with fail
  refine wp_loop_rounds 3 ?_
  repeat any_goals (rw [rounds_succ]; go_wp2_with fail)
  refine bodyPost_ret (ret_cells3 rfl rfl (by first | with_reducible exact stored3 r0 r1 r2 | with_reducible exact cells3_alloc (stored3 r0 r1 r2) | with_reducible exact cells3_alloc (cells3_alloc (stored3 r0 r1 r2)) | with_reducible exact cells3_alloc (cells3_alloc (cells3_alloc (stored3 r0 r1 r2))) | with_reducible exact cells3_alloc (cells3_alloc (cells3_alloc (cells3_alloc (stored3 r0 r1 r2))))) (Tryd.isAgg23 _) (Tryd.sizeOf23 _)) rfl ?_
  exact Rets.mk rfl (by go_grown)

set_option maxHeartbeats 1000000 in
theorem RefArith37_nullc (a b : GV) (w : World) (hq : (a.ok && b.ok) = true)
    (h0 : (a.k != 0) = true) (h0'' : (a.k == 0) = false) (h0' : (a.k != 2) = false) (h1 : (b.k != 0) = false) (h1'' : (b.k == 0) = true) :
    Calls Tryd.prog 11 #[.string ⟨#[37]⟩, a.val, b.val] w (Rets (.tuple #[GV.none.val, .int .i64 0]) w) := by
  have hc := fun W v hv => ref_may2 a b v W hv
  rw [hq] at hc
  unfold GV.val
  clear hq
  go_enter Tryd.func11, Tryd.ntmps11
  go_wp2_with fail
  refine (hc _ _ (VS.made [a, b] (by simp) rfl rfl (by simp))).mono ?_
  rintro e w1 ⟨rfl, hb1⟩
  have r0 := cell_below hb1 (a := ⟨w.heap.size + 1 + 1, 0, none⟩) (v := .int .i64 0) (by simp [go_sem])
  have r1 := cell_below hb1 (a := ⟨w.heap.size + 1 + 1, 1, none⟩) (v := .int .i64 0) (by simp [go_sem])
  have r2 := cell_below hb1 (a := ⟨w.heap.size + 1 + 1, 2, none⟩) (v := .string ⟨#[]⟩) (by simp [go_sem])
  have ak := cell_below hb1 (a := ⟨w.heap.size, 0, none⟩) (v := .int .i64 a.k) (by simp [go_sem])
  have ai := cell_below hb1 (a := ⟨w.heap.size, 1, none⟩) (v := .int .i64 a.i) (by simp [go_sem])
  have bk := cell_below hb1 (a := ⟨w.heap.size + 1, 0, none⟩) (v := .int .i64 b.k) (by simp [go_sem])
  have bi := cell_below hb1 (a := ⟨w.heap.size + 1, 1, none⟩) (v := .int .i64 b.i) (by simp [go_sem])
  have hz0 : w.heap.size < w1.heap.size := by have := hb1.size; simp at this; omega
  have hz1 : w.heap.size + 1 < w1.heap.size := by have := hb1.size; simp at this; omega
  have hz2 : w.heap.size + 1 + 1 < w1.heap.size := by have := hb1.size; simp at this; omega
  have hy0 : w.heap.size < w1.heap.size + 1 := by omega
  have hy1 : w.heap.size + 1 < w1.heap.size + 1 := by omega
  have hx0 : w.heap.size < w1.heap.size + 1 + 1 := by omega
  have hx1 : w.heap.size + 1 < w1.heap.size + 1 + 1 := by omega
  obtain ⟨hc1, hf1⟩ := bcell hb1
  have hB := later (w := w) (by go_grown) hb1
  go_wp2_with fail
  refine wp_loop_rounds 3 ?_
  repeat any_goals (rw [rounds_succ]; go_wp2_with fail)
  refine bodyPost_ret (ret_cells3 rfl rfl (by first | with_reducible exact stored3 r0 r1 r2 | with_reducible exact cells3_alloc (stored3 r0 r1 r2) | with_reducible exact cells3_alloc (cells3_alloc (stored3 r0 r1 r2)) | with_reducible exact cells3_alloc (cells3_alloc (cells3_alloc (stored3 r0 r1 r2))) | with_reducible exact cells3_alloc (cells3_alloc (cells3_alloc (cells3_alloc (stored3 r0 r1 r2))))) (Tryd.isAgg23 _) (Tryd.sizeOf23 _)) rfl ?_
  exact Rets.mk rfl (by go_grown)

set_option maxHeartbeats 1000000 in
theorem RefArith37_err (a b : GV) (w : World) (hq : (a.ok && b.ok) = true)
    (h0 : (a.k != 0) = true) (h0'' : (a.k == 0) = false) (h0' : (a.k != 2) = false) (h1 : (b.k != 0) = true) (h1'' : (b.k == 0) = false) (h1' : (b.k != 2) = false) (n er : Int) (hr : ∀ W, Calls Tryd.prog 28 #[.string ⟨#[37]⟩, .int .i64 a.i, .int .i64 b.i] W (Rets (.tuple #[.int .i64 n, .int .i64 er]) W)) (her : (er != 0) = true) :
    Calls Tryd.prog 11 #[.string ⟨#[37]⟩, a.val, b.val] w (Rets (.tuple #[GV.none.val, .int .i64 er]) w) := by
  have hc := fun W v hv => ref_may2 a b v W hv
  rw [hq] at hc
  unfold GV.val
  clear hq
  go_enter Tryd.func11, Tryd.ntmps11
  go_wp2_with fail
  refine (hc _ _ (VS.made [a, b] (by simp) rfl rfl (by simp))).mono ?_
  rintro e w1 ⟨rfl, hb1⟩
  have r0 := cell_below hb1 (a := ⟨w.heap.size + 1 + 1, 0, none⟩) (v := .int .i64 0) (by simp [go_sem])
  have r1 := cell_below hb1 (a := ⟨w.heap.size + 1 + 1, 1, none⟩) (v := .int .i64 0) (by simp [go_sem])
  have r2 := cell_below hb1 (a := ⟨w.heap.size + 1 + 1, 2, none⟩) (v := .string ⟨#[]⟩) (by simp [go_sem])
  have ak := cell_below hb1 (a := ⟨w.heap.size, 0, none⟩) (v := .int .i64 a.k) (by simp [go_sem])
  have ai := cell_below hb1 (a := ⟨w.heap.size, 1, none⟩) (v := .int .i64 a.i) (by simp [go_sem])
  have bk := cell_below hb1 (a := ⟨w.heap.size + 1, 0, none⟩) (v := .int .i64 b.k) (by simp [go_sem])
  have bi := cell_below hb1 (a := ⟨w.heap.size + 1, 1, none⟩) (v := .int .i64 b.i) (by simp [go_sem])
  have hz0 : w.heap.size < w1.heap.size := by have := hb1.size; simp at this; omega
  have hz1 : w.heap.size + 1 < w1.heap.size := by have := hb1.size; simp at this; omega
  have hz2 : w.heap.size + 1 + 1 < w1.heap.size := by have := hb1.size; simp at this; omega
  have hy0 : w.heap.size < w1.heap.size + 1 := by omega
  have hy1 : w.heap.size + 1 < w1.heap.size + 1 := by omega
  have hx0 : w.heap.size < w1.heap.size + 1 + 1 := by omega
  have hx1 : w.heap.size + 1 < w1.heap.size + 1 + 1 := by omega
  obtain ⟨hc1, hf1⟩ := bcell hb1
  have hB := later (w := w) (by go_grown) hb1
  go_wp2_with fail
  refine wp_loop_rounds 3 ?_
  repeat any_goals (rw [rounds_succ]; go_wp2_with fail)
  refine (hr _).mono ?_
  rintro e w3 ⟨rfl, hb3⟩
  have q0 := cell_below hb3 (cell_alloc (cell_alloc (cell_alloc r0)))
  have q1 := cell_below hb3 (cell_alloc (cell_alloc (cell_alloc r1)))
  have q2 := cell_below hb3 (cell_alloc (cell_alloc (cell_alloc r2)))
  have fz := bcell hb3
  have hB3 := later (w := w) (by go_grown) hb3
  have hz32 : w.heap.size + 1 + 1 < w3.heap.size := by have := hb3.size; simp at this; omega
  have f0 : w3.frozen? ⟨w.heap.size + 1 + 1, 0, none⟩ = false := by rw [fz.2 _ _ (by simp; omega)]; simp [go_sem, *]
  have f1 : w3.frozen? ⟨w.heap.size + 1 + 1, 1, none⟩ = false := by rw [fz.2 _ _ (by simp; omega)]; simp [go_sem, *]
  have f2 : w3.frozen? ⟨w.heap.size + 1 + 1, 2, none⟩ = false := by rw [fz.2 _ _ (by simp; omega)]; simp [go_sem, *]
  clear hc1 hf1 fz r0 r1 r2 hB hz0 hz1 hz2 hy0 hy1 hx0 hx1 hc ak ai bk bi
  go_wp2
  refine bodyPost_ret (ret_cells3 rfl rfl (by first | with_reducible exact stored3 q0 q1 q2 | with_reducible exact cells3_alloc (stored3 q0 q1 q2) | with_reducible exact cells3_alloc (cells3_alloc (stored3 q0 q1 q2)) | with_reducible exact cells3_alloc (cells3_alloc (cells3_alloc (stored3 q0 q1 q2))) | with_reducible exact cells3_alloc (cells3_alloc (cells3_alloc (cells3_alloc (stored3 q0 q1 q2))))) (Tryd.isAgg23 _) (Tryd.sizeOf23 _)) rfl ?_
  exact Rets.mk rfl (by go_grown)

set_option maxHeartbeats 1000000 in
theorem RefArith37_ok (a b : GV) (w : World) (hq : (a.ok && b.ok) = true)
    (h0 : (a.k != 0) = true) (h0'' : (a.k == 0) = false) (h0' : (a.k != 2) = false) (h1 : (b.k != 0) = true) (h1'' : (b.k == 0) = false) (h1' : (b.k != 2) = false) (n : Int) (hr : ∀ W, Calls Tryd.prog 28 #[.string ⟨#[37]⟩, .int .i64 a.i, .int .i64 b.i] W (Rets (.tuple #[.int .i64 n, .int .i64 0]) W)) :
    Calls Tryd.prog 11 #[.string ⟨#[37]⟩, a.val, b.val] w (Rets (.tuple #[(GV.num n).val, .int .i64 0]) w) := by
  have hc := fun W v hv => ref_may2 a b v W hv
  rw [hq] at hc
  have hnum := ref_Int1 n
  unfold GV.val
  clear hq
  go_enter Tryd.func11, Tryd.ntmps11
  go_wp2_with fail
  refine (hc _ _ (VS.made [a, b] (by simp) rfl rfl (by simp))).mono ?_
  rintro e w1 ⟨rfl, hb1⟩
  have r0 := cell_below hb1 (a := ⟨w.heap.size + 1 + 1, 0, none⟩) (v := .int .i64 0) (by simp [go_sem])
  have r1 := cell_below hb1 (a := ⟨w.heap.size + 1 + 1, 1, none⟩) (v := .int .i64 0) (by simp [go_sem])
  have r2 := cell_below hb1 (a := ⟨w.heap.size + 1 + 1, 2, none⟩) (v := .string ⟨#[]⟩) (by simp [go_sem])
  have ak := cell_below hb1 (a := ⟨w.heap.size, 0, none⟩) (v := .int .i64 a.k) (by simp [go_sem])
  have ai := cell_below hb1 (a := ⟨w.heap.size, 1, none⟩) (v := .int .i64 a.i) (by simp [go_sem])
  have bk := cell_below hb1 (a := ⟨w.heap.size + 1, 0, none⟩) (v := .int .i64 b.k) (by simp [go_sem])
  have bi := cell_below hb1 (a := ⟨w.heap.size + 1, 1, none⟩) (v := .int .i64 b.i) (by simp [go_sem])
  have hz0 : w.heap.size < w1.heap.size := by have := hb1.size; simp at this; omega
  have hz1 : w.heap.size + 1 < w1.heap.size := by have := hb1.size; simp at this; omega
  have hz2 : w.heap.size + 1 + 1 < w1.heap.size := by have := hb1.size; simp at this; omega
  have hy0 : w.heap.size < w1.heap.size + 1 := by omega
  have hy1 : w.heap.size + 1 < w1.heap.size + 1 := by omega
  have hx0 : w.heap.size < w1.heap.size + 1 + 1 := by omega
  have hx1 : w.heap.size + 1 < w1.heap.size + 1 + 1 := by omega
  obtain ⟨hc1, hf1⟩ := bcell hb1
  have hB := later (w := w) (by go_grown) hb1
  go_wp2_with fail
  refine wp_loop_rounds 3 ?_
  repeat any_goals (rw [rounds_succ]; go_wp2_with fail)
  refine (hr _).mono ?_
  rintro e w3 ⟨rfl, hb3⟩
  have q0 := cell_below hb3 (cell_alloc (cell_alloc (cell_alloc r0)))
  have q1 := cell_below hb3 (cell_alloc (cell_alloc (cell_alloc r1)))
  have q2 := cell_below hb3 (cell_alloc (cell_alloc (cell_alloc r2)))
  have fz := bcell hb3
  have hB3 := later (w := w) (by go_grown) hb3
  have hz32 : w.heap.size + 1 + 1 < w3.heap.size := by have := hb3.size; simp at this; omega
  have f0 : w3.frozen? ⟨w.heap.size + 1 + 1, 0, none⟩ = false := by rw [fz.2 _ _ (by simp; omega)]; simp [go_sem, *]
  have f1 : w3.frozen? ⟨w.heap.size + 1 + 1, 1, none⟩ = false := by rw [fz.2 _ _ (by simp; omega)]; simp [go_sem, *]
  have f2 : w3.frozen? ⟨w.heap.size + 1 + 1, 2, none⟩ = false := by rw [fz.2 _ _ (by simp; omega)]; simp [go_sem, *]
  clear hc1 hf1 fz r0 r1 r2 hB hz0 hz1 hz2 hy0 hy1 hx0 hx1 hc ak ai bk bi
  go_wp2_with fail
  refine (hnum _).mono ?_
  rintro e w5 ⟨rfl, hb5⟩
  have o0 := cell_below hb5 q0
  have o1 := cell_below hb5 q1
  have o2 := cell_below hb5 q2
  have e0 : w5.frozen? ⟨w.heap.size + 1 + 1, 0, none⟩ = false := by rw [(bcell hb5).2 _ _ hz32]; exact f0
  have e1 : w5.frozen? ⟨w.heap.size + 1 + 1, 1, none⟩ = false := by rw [(bcell hb5).2 _ _ hz32]; exact f1
  have e2 : w5.frozen? ⟨w.heap.size + 1 + 1, 2, none⟩ = false := by rw [(bcell hb5).2 _ _ hz32]; exact f2
  have hB5 := later hB3 hb5
  clear q0 q1 q2 f0 f1 f2 hB3 hz32
  unfold GV.val GV.num
  go_wp2
  refine bodyPost_ret (ret_cells3 rfl rfl (by first | with_reducible exact stored3 o0 o1 o2 | with_reducible exact cells3_alloc (stored3 o0 o1 o2) | with_reducible exact cells3_alloc (cells3_alloc (stored3 o0 o1 o2)) | with_reducible exact cells3_alloc (cells3_alloc (cells3_alloc (stored3 o0 o1 o2))) | with_reducible exact cells3_alloc (cells3_alloc (cells3_alloc (cells3_alloc (stored3 o0 o1 o2))))) (Tryd.isAgg23 _) (Tryd.sizeOf23 _)) rfl ?_
  exact Rets.mk rfl (by go_grown)

theorem RefArith37 (a b : GV) (w : World) (ha : I64 a.i) (hb : I64 b.i) (hq : (a.ok && b.ok) = true) :
    Calls Tryd.prog 11 #[.string ⟨#[37]⟩, a.val, b.val] w (Rets (.tuple #[(arithS [37] a b).1.val, .int .i64 (arithS [37] a b).2]) w) := by
  unfold arithS
  rw [hq, show signs.contains [37] = true from rfl]
  simp only [Bool.not_true, Bool.false_eq_true, if_false]
  have hr := fun W => ref_arith_rem a.i b.i W
  cases g0 : (a.k == 0) with
  | true =>
    have h0 : (a.k != 0) = false := by rw [bne, g0]; rfl
    rw [h0]
    cases g1 : (b.k == 0) with
    | true =>
      have h1 : (b.k != 0) = false := by rw [bne, g1]; rfl
      rw [h1]
      exact RefArith37_nulla a b w hq h0 g0 h1 g1
    | false =>
      have h1 : (b.k != 0) = true := by rw [bne, g1]; rfl
      rw [h1]
      cases h3 : (b.k != 2) with
      | true => exact RefArith37_kind1a a b w hq h0 g0 h1 h3
      | false => exact RefArith37_nullb a b w hq h0 g0 h1 g1 h3
  | false =>
    have h0 : (a.k != 0) = true := by rw [bne, g0]; rfl
    rw [h0]
    cases h2 : (a.k != 2) with
    | true => exact RefArith37_kind0 a b w hq h0 h2
    | false =>
      cases g1 : (b.k == 0) with
      | true =>
        have h1 : (b.k != 0) = false := by rw [bne, g1]; rfl
        rw [h1]
        exact RefArith37_nullc a b w hq h0 g0 h2 h1 g1
      | false =>
        have h1 : (b.k != 0) = true := by rw [bne, g1]; rfl
        rw [h1]
        cases h3 : (b.k != 2) with
        | true => exact RefArith37_kind1b a b w hq h0 g0 h2 h1 h3
        | false =>
          cases he : ((reckonS [37] a.i b.i).2 != 0) with
          | true => exact RefArith37_err a b w hq h0 g0 h2 h1 g1 h3 _ _ hr he
          | false =>
            have he' : (reckonS [37] a.i b.i).2 = 0 := by simpa using he
            rw [he'] at hr
            exact RefArith37_ok a b w hq h0 g0 h2 h1 g1 h3 _ hr

theorem ref_Arith (op : ByteArray) (a b : GV) (w : World) (ha : I64 a.i) (hb : I64 b.i) :
    Calls Tryd.prog 11 #[.string op, a.val, b.val] w (Rets (.tuple #[(arithS op.toList a b).1.val, .int .i64 (arithS op.toList a b).2]) w) := by
  cases hq : (a.ok && b.ok) with
  | false =>
    unfold arithS
    rw [hq]
    exact RefArith_bad op a b w hq
  | true =>
    have hop : ∀ c : UInt8, op.toList = [c] → op = ⟨#[c]⟩ := by
      intro c hl
      rw [Go.ByteArray.toList_eq] at hl
      obtain ⟨⟨l⟩⟩ := op
      simp only at hl
      rw [hl]
    cases hs : signs.contains op.toList with
    | true =>
      have hh : op.toList = [43] ∨ op.toList = [45] ∨ op.toList = [42] ∨ op.toList = [47] ∨ op.toList = [37] := by
        simp only [signs, List.contains_cons, Bool.or_eq_true, beq_iff_eq, List.contains_nil, Bool.false_eq_true, or_false] at hs
        exact hs
      rcases hh with h | h | h | h | h
      all_goals (have e := hop _ h; rw [h]; subst e)
      · exact RefArith43 a b w ha hb hq
      · exact RefArith45 a b w ha hb hq
      · exact RefArith42 a b w ha hb hq
      · exact RefArith47 a b w ha hb hq
      · exact RefArith37 a b w ha hb hq
    | false =>
      unfold arithS
      rw [hq, hs]
      simp only [signs, List.contains_cons, Bool.or_eq_false_iff, List.contains_nil] at hs
      obtain ⟨s1, s2, s3, s4, s5, _⟩ := hs
      exact RefArith_op op a b w hq (by rw [bne, s1]; rfl) (by rw [bne, s2]; rfl) (by rw [bne, s3]; rfl) (by rw [bne, s4]; rfl) (by rw [bne, s5]; rfl) s1 s2 s3 s4 s5
end Go.Proofs.YtddnkjeogidfcaaDoor
