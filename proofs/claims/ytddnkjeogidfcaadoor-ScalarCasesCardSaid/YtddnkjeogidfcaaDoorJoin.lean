/-  scalar.Join: each way through it. -/
import Derived.Test.YtddnkjeogidfcaaDoorDoB
namespace Go.Proofs.YtddnkjeogidfcaaDoor
open Go.RowKit Go.Shelf Go

def wholeB (v : GV) : Bool := v.k == 1 || v.k == 2

set_option maxHeartbeats 400000 in
theorem join_1 (v : GV) (w : World) :
    Calls Tryd.prog 29 #[v.val] w (Rets (.bool (wholeB v)) w) := by
  unfold GV.val wholeB
  go_enter Tryd.func29, Tryd.ntmps29
  cases h : (v.k == 1)
  · go_wp2
    go_returns
    exact Rets.bool rfl ((Below.refl _ _).alloc (Nat.le_refl _) _)
  · go_wp2
    go_returns
    exact Rets.bool rfl ((Below.refl _ _).alloc (Nat.le_refl _) _)

def joinS (a b : GV) : GV × Int :=
  if !(a.ok && b.ok) then (GV.none, 1)
  else if wholeB a || wholeB b then (GV.none, 20)
  else if a.k == 0 || b.k == 0 then (GV.none, 0)
  else if a.k != b.k then (GV.none, 20)
  else (⟨a.k, 0, a.s ++ b.s⟩, 0)

set_option maxHeartbeats 1000000 in
theorem Join_bad (a b : GV) (w : World) (ha : I64 a.i) (hb : I64 b.i) (hq : (a.ok && b.ok) = false)  :
    Calls Tryd.prog 14 #[a.val, b.val] w (Rets (.tuple #[GV.none.val, .int .i64 1]) w) := by
  have hc := check_two a b ha hb _ hq
  have hwa := fun W => join_1 a W
  have hwb := fun W => join_1 b W
  unfold GV.val at *
  clear hq ha hb
  go_enter Tryd.func14, Tryd.ntmps14
  go_wp2_with fail
  refine (hc _ _ (VS.made [a, b] (by simp) rfl rfl (by simp))).mono ?_
  rintro e w1 ⟨rfl, hb1⟩
  have ra_0 := cell_below hb1 (a := ⟨w.heap.size + 1 + 1, 0, none⟩) (v := .int .i64 0) (by simp [go_sem])
  have rb_0 := cell_below hb1 (a := ⟨w.heap.size + 1 + 1, 1, none⟩) (v := .int .i64 0) (by simp [go_sem])
  have rc_0 := cell_below hb1 (a := ⟨w.heap.size + 1 + 1, 2, none⟩) (v := .string ⟨#[]⟩) (by simp [go_sem])
  have aa_0 := cell_below hb1 (a := ⟨w.heap.size, 0, none⟩) (v := .int .i64 a.k) (by simp [go_sem])
  have ab_0 := cell_below hb1 (a := ⟨w.heap.size, 1, none⟩) (v := .int .i64 a.i) (by simp [go_sem])
  have ac_0 := cell_below hb1 (a := ⟨w.heap.size, 2, none⟩) (v := .string a.s) (by simp [go_sem])
  have ba_0 := cell_below hb1 (a := ⟨w.heap.size + 1, 0, none⟩) (v := .int .i64 b.k) (by simp [go_sem])
  have bb_0 := cell_below hb1 (a := ⟨w.heap.size + 1, 1, none⟩) (v := .int .i64 b.i) (by simp [go_sem])
  have bc_0 := cell_below hb1 (a := ⟨w.heap.size + 1, 2, none⟩) (v := .string b.s) (by simp [go_sem])
  have fz_0 : ∀ o, w1.frozen? ⟨w.heap.size + 1 + 1, o, none⟩ = false := fun o => by rw [(bcell hb1).2 _ _ (by simp)]; simp [go_sem]
  have hzra_0 : w.heap.size + 1 + 1 < w1.heap.size := lt_of_cell ra_0
  have hB_0 := later (w := w) (by go_grown) hb1
  clear hb1 hc
  go_wp2
  refine bodyPost_ret (ret_cells3 rfl rfl (by first | with_reducible exact stored3 ra_0 rb_0 rc_0 | with_reducible exact cells3_alloc (stored3 ra_0 rb_0 rc_0) | with_reducible exact cells3_alloc (cells3_alloc (stored3 ra_0 rb_0 rc_0))) (Tryd.isAgg23 _) (Tryd.sizeOf23 _)) rfl ?_
  exact Rets.mk rfl (by go_grown)

set_option maxHeartbeats 1000000 in
theorem Join_wholea (a b : GV) (w : World) (ha : I64 a.i) (hb : I64 b.i) (hq : (a.ok && b.ok) = true) (hwh : wholeB a = true) :
    Calls Tryd.prog 14 #[a.val, b.val] w (Rets (.tuple #[GV.none.val, .int .i64 20]) w) := by
  have hc := check_two a b ha hb _ hq
  have hwa := fun W => join_1 a W
  have hwb := fun W => join_1 b W
  unfold GV.val at *
  clear hq ha hb
  go_enter Tryd.func14, Tryd.ntmps14
  go_wp2_with fail
  refine (hc _ _ (VS.made [a, b] (by simp) rfl rfl (by simp))).mono ?_
  rintro e w1 ⟨rfl, hb1⟩
  have ra_0 := cell_below hb1 (a := ⟨w.heap.size + 1 + 1, 0, none⟩) (v := .int .i64 0) (by simp [go_sem])
  have rb_0 := cell_below hb1 (a := ⟨w.heap.size + 1 + 1, 1, none⟩) (v := .int .i64 0) (by simp [go_sem])
  have rc_0 := cell_below hb1 (a := ⟨w.heap.size + 1 + 1, 2, none⟩) (v := .string ⟨#[]⟩) (by simp [go_sem])
  have aa_0 := cell_below hb1 (a := ⟨w.heap.size, 0, none⟩) (v := .int .i64 a.k) (by simp [go_sem])
  have ab_0 := cell_below hb1 (a := ⟨w.heap.size, 1, none⟩) (v := .int .i64 a.i) (by simp [go_sem])
  have ac_0 := cell_below hb1 (a := ⟨w.heap.size, 2, none⟩) (v := .string a.s) (by simp [go_sem])
  have ba_0 := cell_below hb1 (a := ⟨w.heap.size + 1, 0, none⟩) (v := .int .i64 b.k) (by simp [go_sem])
  have bb_0 := cell_below hb1 (a := ⟨w.heap.size + 1, 1, none⟩) (v := .int .i64 b.i) (by simp [go_sem])
  have bc_0 := cell_below hb1 (a := ⟨w.heap.size + 1, 2, none⟩) (v := .string b.s) (by simp [go_sem])
  have fz_0 : ∀ o, w1.frozen? ⟨w.heap.size + 1 + 1, o, none⟩ = false := fun o => by rw [(bcell hb1).2 _ _ (by simp)]; simp [go_sem]
  have hzra_0 : w.heap.size + 1 + 1 < w1.heap.size := lt_of_cell ra_0
  have hB_0 := later (w := w) (by go_grown) hb1
  clear hb1 hc
  rw [hwh] at hwa
  clear hwh
  go_wp2_with fail
  refine (hwa _).mono ?_
  rintro e w2 ⟨rfl, hb2⟩
  have ra_1 := cell_below hb2 ra_0
  have rb_1 := cell_below hb2 rb_0
  have rc_1 := cell_below hb2 rc_0
  have aa_1 := cell_below hb2 aa_0
  have ab_1 := cell_below hb2 ab_0
  have ac_1 := cell_below hb2 ac_0
  have ba_1 := cell_below hb2 ba_0
  have bb_1 := cell_below hb2 bb_0
  have bc_1 := cell_below hb2 bc_0
  have fz_1 : ∀ o, World.frozen? w2 ⟨w.heap.size + 1 + 1, o, none⟩ = false := fun o => by rw [(bcell hb2).2 _ _ (lt_of_cell ra_0)]; exact fz_0 o
  have hzra_1 : w.heap.size + 1 + 1 < w2.heap.size := lt_of_cell ra_1
  have hB_1 := later hB_0 hb2
  clear ra_0 rb_0 rc_0 aa_0 ab_0 ac_0 ba_0 bb_0 bc_0 fz_0 
  go_wp2
  refine bodyPost_ret (ret_cells3 rfl rfl (by first | with_reducible exact stored3 ra_1 rb_1 rc_1 | with_reducible exact cells3_alloc (stored3 ra_1 rb_1 rc_1) | with_reducible exact cells3_alloc (cells3_alloc (stored3 ra_1 rb_1 rc_1))) (Tryd.isAgg23 _) (Tryd.sizeOf23 _)) rfl ?_
  exact Rets.mk rfl (by go_grown)

set_option maxHeartbeats 1000000 in
theorem Join_wholeb (a b : GV) (w : World) (ha : I64 a.i) (hb : I64 b.i) (hq : (a.ok && b.ok) = true) (hwh : wholeB a = false) (hwh2 : wholeB b = true) :
    Calls Tryd.prog 14 #[a.val, b.val] w (Rets (.tuple #[GV.none.val, .int .i64 20]) w) := by
  have hc := check_two a b ha hb _ hq
  have hwa := fun W => join_1 a W
  have hwb := fun W => join_1 b W
  unfold GV.val at *
  clear hq ha hb
  go_enter Tryd.func14, Tryd.ntmps14
  go_wp2_with fail
  refine (hc _ _ (VS.made [a, b] (by simp) rfl rfl (by simp))).mono ?_
  rintro e w1 ⟨rfl, hb1⟩
  have ra_0 := cell_below hb1 (a := ⟨w.heap.size + 1 + 1, 0, none⟩) (v := .int .i64 0) (by simp [go_sem])
  have rb_0 := cell_below hb1 (a := ⟨w.heap.size + 1 + 1, 1, none⟩) (v := .int .i64 0) (by simp [go_sem])
  have rc_0 := cell_below hb1 (a := ⟨w.heap.size + 1 + 1, 2, none⟩) (v := .string ⟨#[]⟩) (by simp [go_sem])
  have aa_0 := cell_below hb1 (a := ⟨w.heap.size, 0, none⟩) (v := .int .i64 a.k) (by simp [go_sem])
  have ab_0 := cell_below hb1 (a := ⟨w.heap.size, 1, none⟩) (v := .int .i64 a.i) (by simp [go_sem])
  have ac_0 := cell_below hb1 (a := ⟨w.heap.size, 2, none⟩) (v := .string a.s) (by simp [go_sem])
  have ba_0 := cell_below hb1 (a := ⟨w.heap.size + 1, 0, none⟩) (v := .int .i64 b.k) (by simp [go_sem])
  have bb_0 := cell_below hb1 (a := ⟨w.heap.size + 1, 1, none⟩) (v := .int .i64 b.i) (by simp [go_sem])
  have bc_0 := cell_below hb1 (a := ⟨w.heap.size + 1, 2, none⟩) (v := .string b.s) (by simp [go_sem])
  have fz_0 : ∀ o, w1.frozen? ⟨w.heap.size + 1 + 1, o, none⟩ = false := fun o => by rw [(bcell hb1).2 _ _ (by simp)]; simp [go_sem]
  have hzra_0 : w.heap.size + 1 + 1 < w1.heap.size := lt_of_cell ra_0
  have hB_0 := later (w := w) (by go_grown) hb1
  clear hb1 hc
  rw [hwh] at hwa
  rw [hwh2] at hwb
  clear hwh hwh2
  go_wp2_with fail
  refine (hwa _).mono ?_
  rintro e w2 ⟨rfl, hb2⟩
  have ra_1 := cell_below hb2 ra_0
  have rb_1 := cell_below hb2 rb_0
  have rc_1 := cell_below hb2 rc_0
  have aa_1 := cell_below hb2 aa_0
  have ab_1 := cell_below hb2 ab_0
  have ac_1 := cell_below hb2 ac_0
  have ba_1 := cell_below hb2 ba_0
  have bb_1 := cell_below hb2 bb_0
  have bc_1 := cell_below hb2 bc_0
  have fz_1 : ∀ o, World.frozen? w2 ⟨w.heap.size + 1 + 1, o, none⟩ = false := fun o => by rw [(bcell hb2).2 _ _ (lt_of_cell ra_0)]; exact fz_0 o
  have hzra_1 : w.heap.size + 1 + 1 < w2.heap.size := lt_of_cell ra_1
  have hB_1 := later hB_0 hb2
  clear ra_0 rb_0 rc_0 aa_0 ab_0 ac_0 ba_0 bb_0 bc_0 fz_0 
  go_wp2_with fail
  refine (hwb _).mono ?_
  rintro e w3 ⟨rfl, hb3⟩
  have ra_2 := cell_below hb3 ra_1
  have rb_2 := cell_below hb3 rb_1
  have rc_2 := cell_below hb3 rc_1
  have aa_2 := cell_below hb3 aa_1
  have ab_2 := cell_below hb3 ab_1
  have ac_2 := cell_below hb3 ac_1
  have ba_2 := cell_below hb3 ba_1
  have bb_2 := cell_below hb3 bb_1
  have bc_2 := cell_below hb3 bc_1
  have fz_2 : ∀ o, World.frozen? w3 ⟨w.heap.size + 1 + 1, o, none⟩ = false := fun o => by rw [(bcell hb3).2 _ _ (lt_of_cell ra_1)]; exact fz_1 o
  have hzra_2 : w.heap.size + 1 + 1 < w3.heap.size := lt_of_cell ra_2
  have hB_2 := later hB_1 hb3
  clear ra_1 rb_1 rc_1 aa_1 ab_1 ac_1 ba_1 bb_1 bc_1 fz_1 
  go_wp2
  refine bodyPost_ret (ret_cells3 rfl rfl (by first | with_reducible exact stored3 ra_2 rb_2 rc_2 | with_reducible exact cells3_alloc (stored3 ra_2 rb_2 rc_2) | with_reducible exact cells3_alloc (cells3_alloc (stored3 ra_2 rb_2 rc_2))) (Tryd.isAgg23 _) (Tryd.sizeOf23 _)) rfl ?_
  exact Rets.mk rfl (by go_grown)

set_option maxHeartbeats 1000000 in
theorem Join_null (a b : GV) (w : World) (ha : I64 a.i) (hb : I64 b.i) (hq : (a.ok && b.ok) = true) (hwh : wholeB a = false) (hwh2 : wholeB b = false) (hnull : (a.k == 0 || b.k == 0) = true) :
    Calls Tryd.prog 14 #[a.val, b.val] w (Rets (.tuple #[GV.none.val, .int .i64 0]) w) := by
  have hc := check_two a b ha hb _ hq
  have hwa := fun W => join_1 a W
  have hwb := fun W => join_1 b W
  have hn := null_two a b _ hnull
  clear hnull
  unfold GV.val at *
  clear hq ha hb
  go_enter Tryd.func14, Tryd.ntmps14
  go_wp2_with fail
  refine (hc _ _ (VS.made [a, b] (by simp) rfl rfl (by simp))).mono ?_
  rintro e w1 ⟨rfl, hb1⟩
  have ra_0 := cell_below hb1 (a := ⟨w.heap.size + 1 + 1, 0, none⟩) (v := .int .i64 0) (by simp [go_sem])
  have rb_0 := cell_below hb1 (a := ⟨w.heap.size + 1 + 1, 1, none⟩) (v := .int .i64 0) (by simp [go_sem])
  have rc_0 := cell_below hb1 (a := ⟨w.heap.size + 1 + 1, 2, none⟩) (v := .string ⟨#[]⟩) (by simp [go_sem])
  have aa_0 := cell_below hb1 (a := ⟨w.heap.size, 0, none⟩) (v := .int .i64 a.k) (by simp [go_sem])
  have ab_0 := cell_below hb1 (a := ⟨w.heap.size, 1, none⟩) (v := .int .i64 a.i) (by simp [go_sem])
  have ac_0 := cell_below hb1 (a := ⟨w.heap.size, 2, none⟩) (v := .string a.s) (by simp [go_sem])
  have ba_0 := cell_below hb1 (a := ⟨w.heap.size + 1, 0, none⟩) (v := .int .i64 b.k) (by simp [go_sem])
  have bb_0 := cell_below hb1 (a := ⟨w.heap.size + 1, 1, none⟩) (v := .int .i64 b.i) (by simp [go_sem])
  have bc_0 := cell_below hb1 (a := ⟨w.heap.size + 1, 2, none⟩) (v := .string b.s) (by simp [go_sem])
  have fz_0 : ∀ o, w1.frozen? ⟨w.heap.size + 1 + 1, o, none⟩ = false := fun o => by rw [(bcell hb1).2 _ _ (by simp)]; simp [go_sem]
  have hzra_0 : w.heap.size + 1 + 1 < w1.heap.size := lt_of_cell ra_0
  have hB_0 := later (w := w) (by go_grown) hb1
  clear hb1 hc
  rw [hwh] at hwa
  rw [hwh2] at hwb
  clear hwh hwh2
  go_wp2_with fail
  refine (hwa _).mono ?_
  rintro e w2 ⟨rfl, hb2⟩
  have ra_1 := cell_below hb2 ra_0
  have rb_1 := cell_below hb2 rb_0
  have rc_1 := cell_below hb2 rc_0
  have aa_1 := cell_below hb2 aa_0
  have ab_1 := cell_below hb2 ab_0
  have ac_1 := cell_below hb2 ac_0
  have ba_1 := cell_below hb2 ba_0
  have bb_1 := cell_below hb2 bb_0
  have bc_1 := cell_below hb2 bc_0
  have fz_1 : ∀ o, World.frozen? w2 ⟨w.heap.size + 1 + 1, o, none⟩ = false := fun o => by rw [(bcell hb2).2 _ _ (lt_of_cell ra_0)]; exact fz_0 o
  have hzra_1 : w.heap.size + 1 + 1 < w2.heap.size := lt_of_cell ra_1
  have hB_1 := later hB_0 hb2
  clear ra_0 rb_0 rc_0 aa_0 ab_0 ac_0 ba_0 bb_0 bc_0 fz_0 
  go_wp2_with fail
  refine (hwb _).mono ?_
  rintro e w3 ⟨rfl, hb3⟩
  have ra_2 := cell_below hb3 ra_1
  have rb_2 := cell_below hb3 rb_1
  have rc_2 := cell_below hb3 rc_1
  have aa_2 := cell_below hb3 aa_1
  have ab_2 := cell_below hb3 ab_1
  have ac_2 := cell_below hb3 ac_1
  have ba_2 := cell_below hb3 ba_1
  have bb_2 := cell_below hb3 bb_1
  have bc_2 := cell_below hb3 bc_1
  have fz_2 : ∀ o, World.frozen? w3 ⟨w.heap.size + 1 + 1, o, none⟩ = false := fun o => by rw [(bcell hb3).2 _ _ (lt_of_cell ra_1)]; exact fz_1 o
  have hzra_2 : w.heap.size + 1 + 1 < w3.heap.size := lt_of_cell ra_2
  have hB_2 := later hB_1 hb3
  clear ra_1 rb_1 rc_1 aa_1 ab_1 ac_1 ba_1 bb_1 bc_1 fz_1 
  go_wp2_with fail
  refine (hn _ _ (VS.made [a, b] (by first | (with_reducible rfl) | simp | simp [go_sem]) rfl rfl (by simp))).mono ?_
  rintro e w4 ⟨rfl, hb4⟩
  have ra_3 := cell_below hb4 (cell_alloc ra_2)
  have rb_3 := cell_below hb4 (cell_alloc rb_2)
  have rc_3 := cell_below hb4 (cell_alloc rc_2)
  have aa_3 := cell_below hb4 (cell_alloc aa_2)
  have ab_3 := cell_below hb4 (cell_alloc ab_2)
  have ac_3 := cell_below hb4 (cell_alloc ac_2)
  have ba_3 := cell_below hb4 (cell_alloc ba_2)
  have bb_3 := cell_below hb4 (cell_alloc bb_2)
  have bc_3 := cell_below hb4 (cell_alloc bc_2)
  have fz_3 : ∀ o, w4.frozen? ⟨w.heap.size + 1 + 1, o, none⟩ = false := fun o => by rw [(bcell hb4).2 _ _ (lt_of_cell (cell_alloc ra_2)), frozen_alloc (lt_of_cell ra_2)]; exact fz_2 o
  have hzra_3 : w.heap.size + 1 + 1 < w4.heap.size := lt_of_cell ra_3
  have hB_3 := later (hB_2.alloc hB_2.size _) hb4
  clear ra_2 rb_2 rc_2 aa_2 ab_2 ac_2 ba_2 bb_2 bc_2 fz_2
  go_wp2
  refine bodyPost_ret (ret_cells3 rfl rfl (by first | with_reducible exact stored3 ra_3 rb_3 rc_3 | with_reducible exact cells3_alloc (stored3 ra_3 rb_3 rc_3) | with_reducible exact cells3_alloc (cells3_alloc (stored3 ra_3 rb_3 rc_3))) (Tryd.isAgg23 _) (Tryd.sizeOf23 _)) rfl ?_
  exact Rets.mk rfl (by go_grown)

set_option maxHeartbeats 1000000 in
theorem Join_kind (a b : GV) (w : World) (ha : I64 a.i) (hb : I64 b.i) (hq : (a.ok && b.ok) = true) (hwh : wholeB a = false) (hwh2 : wholeB b = false) (hnull : (a.k == 0 || b.k == 0) = false) (hk : (a.k != b.k) = true) :
    Calls Tryd.prog 14 #[a.val, b.val] w (Rets (.tuple #[GV.none.val, .int .i64 20]) w) := by
  have hc := check_two a b ha hb _ hq
  have hwa := fun W => join_1 a W
  have hwb := fun W => join_1 b W
  have hn := null_two a b _ hnull
  clear hnull
  unfold GV.val at *
  clear hq ha hb
  go_enter Tryd.func14, Tryd.ntmps14
  go_wp2_with fail
  refine (hc _ _ (VS.made [a, b] (by simp) rfl rfl (by simp))).mono ?_
  rintro e w1 ⟨rfl, hb1⟩
  have ra_0 := cell_below hb1 (a := ⟨w.heap.size + 1 + 1, 0, none⟩) (v := .int .i64 0) (by simp [go_sem])
  have rb_0 := cell_below hb1 (a := ⟨w.heap.size + 1 + 1, 1, none⟩) (v := .int .i64 0) (by simp [go_sem])
  have rc_0 := cell_below hb1 (a := ⟨w.heap.size + 1 + 1, 2, none⟩) (v := .string ⟨#[]⟩) (by simp [go_sem])
  have aa_0 := cell_below hb1 (a := ⟨w.heap.size, 0, none⟩) (v := .int .i64 a.k) (by simp [go_sem])
  have ab_0 := cell_below hb1 (a := ⟨w.heap.size, 1, none⟩) (v := .int .i64 a.i) (by simp [go_sem])
  have ac_0 := cell_below hb1 (a := ⟨w.heap.size, 2, none⟩) (v := .string a.s) (by simp [go_sem])
  have ba_0 := cell_below hb1 (a := ⟨w.heap.size + 1, 0, none⟩) (v := .int .i64 b.k) (by simp [go_sem])
  have bb_0 := cell_below hb1 (a := ⟨w.heap.size + 1, 1, none⟩) (v := .int .i64 b.i) (by simp [go_sem])
  have bc_0 := cell_below hb1 (a := ⟨w.heap.size + 1, 2, none⟩) (v := .string b.s) (by simp [go_sem])
  have fz_0 : ∀ o, w1.frozen? ⟨w.heap.size + 1 + 1, o, none⟩ = false := fun o => by rw [(bcell hb1).2 _ _ (by simp)]; simp [go_sem]
  have hzra_0 : w.heap.size + 1 + 1 < w1.heap.size := lt_of_cell ra_0
  have hB_0 := later (w := w) (by go_grown) hb1
  clear hb1 hc
  rw [hwh] at hwa
  rw [hwh2] at hwb
  clear hwh hwh2
  go_wp2_with fail
  refine (hwa _).mono ?_
  rintro e w2 ⟨rfl, hb2⟩
  have ra_1 := cell_below hb2 ra_0
  have rb_1 := cell_below hb2 rb_0
  have rc_1 := cell_below hb2 rc_0
  have aa_1 := cell_below hb2 aa_0
  have ab_1 := cell_below hb2 ab_0
  have ac_1 := cell_below hb2 ac_0
  have ba_1 := cell_below hb2 ba_0
  have bb_1 := cell_below hb2 bb_0
  have bc_1 := cell_below hb2 bc_0
  have fz_1 : ∀ o, World.frozen? w2 ⟨w.heap.size + 1 + 1, o, none⟩ = false := fun o => by rw [(bcell hb2).2 _ _ (lt_of_cell ra_0)]; exact fz_0 o
  have hzra_1 : w.heap.size + 1 + 1 < w2.heap.size := lt_of_cell ra_1
  have hB_1 := later hB_0 hb2
  clear ra_0 rb_0 rc_0 aa_0 ab_0 ac_0 ba_0 bb_0 bc_0 fz_0 
  go_wp2_with fail
  refine (hwb _).mono ?_
  rintro e w3 ⟨rfl, hb3⟩
  have ra_2 := cell_below hb3 ra_1
  have rb_2 := cell_below hb3 rb_1
  have rc_2 := cell_below hb3 rc_1
  have aa_2 := cell_below hb3 aa_1
  have ab_2 := cell_below hb3 ab_1
  have ac_2 := cell_below hb3 ac_1
  have ba_2 := cell_below hb3 ba_1
  have bb_2 := cell_below hb3 bb_1
  have bc_2 := cell_below hb3 bc_1
  have fz_2 : ∀ o, World.frozen? w3 ⟨w.heap.size + 1 + 1, o, none⟩ = false := fun o => by rw [(bcell hb3).2 _ _ (lt_of_cell ra_1)]; exact fz_1 o
  have hzra_2 : w.heap.size + 1 + 1 < w3.heap.size := lt_of_cell ra_2
  have hB_2 := later hB_1 hb3
  clear ra_1 rb_1 rc_1 aa_1 ab_1 ac_1 ba_1 bb_1 bc_1 fz_1 
  go_wp2_with fail
  refine (hn _ _ (VS.made [a, b] (by first | (with_reducible rfl) | simp | simp [go_sem]) rfl rfl (by simp))).mono ?_
  rintro e w4 ⟨rfl, hb4⟩
  have ra_3 := cell_below hb4 (cell_alloc ra_2)
  have rb_3 := cell_below hb4 (cell_alloc rb_2)
  have rc_3 := cell_below hb4 (cell_alloc rc_2)
  have aa_3 := cell_below hb4 (cell_alloc aa_2)
  have ab_3 := cell_below hb4 (cell_alloc ab_2)
  have ac_3 := cell_below hb4 (cell_alloc ac_2)
  have ba_3 := cell_below hb4 (cell_alloc ba_2)
  have bb_3 := cell_below hb4 (cell_alloc bb_2)
  have bc_3 := cell_below hb4 (cell_alloc bc_2)
  have fz_3 : ∀ o, w4.frozen? ⟨w.heap.size + 1 + 1, o, none⟩ = false := fun o => by rw [(bcell hb4).2 _ _ (lt_of_cell (cell_alloc ra_2)), frozen_alloc (lt_of_cell ra_2)]; exact fz_2 o
  have hzra_3 : w.heap.size + 1 + 1 < w4.heap.size := lt_of_cell ra_3
  have hB_3 := later (hB_2.alloc hB_2.size _) hb4
  clear ra_2 rb_2 rc_2 aa_2 ab_2 ac_2 ba_2 bb_2 bc_2 fz_2
  go_wp2
  refine bodyPost_ret (ret_cells3 rfl rfl (by first | with_reducible exact stored3 ra_3 rb_3 rc_3 | with_reducible exact cells3_alloc (stored3 ra_3 rb_3 rc_3) | with_reducible exact cells3_alloc (cells3_alloc (stored3 ra_3 rb_3 rc_3))) (Tryd.isAgg23 _) (Tryd.sizeOf23 _)) rfl ?_
  exact Rets.mk rfl (by go_grown)

set_option maxHeartbeats 1000000 in
theorem Join_ok (a b : GV) (w : World) (ha : I64 a.i) (hb : I64 b.i) (hq : (a.ok && b.ok) = true) (hwh : wholeB a = false) (hwh2 : wholeB b = false) (hnull : (a.k == 0 || b.k == 0) = false) (hk : (a.k != b.k) = false) (hs : a.s.size + b.s.size ≤ 9223372036854775807) :
    Calls Tryd.prog 14 #[a.val, b.val] w (Rets (.tuple #[(⟨a.k, 0, a.s ++ b.s⟩ : GV).val, .int .i64 0]) w) := by
  have hc := check_two a b ha hb _ hq
  have hwa := fun W => join_1 a W
  have hwb := fun W => join_1 b W
  have hn := null_two a b _ hnull
  clear hnull
  unfold GV.val at *
  clear hq ha hb
  go_enter Tryd.func14, Tryd.ntmps14
  go_wp2_with fail
  refine (hc _ _ (VS.made [a, b] (by simp) rfl rfl (by simp))).mono ?_
  rintro e w1 ⟨rfl, hb1⟩
  have ra_0 := cell_below hb1 (a := ⟨w.heap.size + 1 + 1, 0, none⟩) (v := .int .i64 0) (by simp [go_sem])
  have rb_0 := cell_below hb1 (a := ⟨w.heap.size + 1 + 1, 1, none⟩) (v := .int .i64 0) (by simp [go_sem])
  have rc_0 := cell_below hb1 (a := ⟨w.heap.size + 1 + 1, 2, none⟩) (v := .string ⟨#[]⟩) (by simp [go_sem])
  have aa_0 := cell_below hb1 (a := ⟨w.heap.size, 0, none⟩) (v := .int .i64 a.k) (by simp [go_sem])
  have ab_0 := cell_below hb1 (a := ⟨w.heap.size, 1, none⟩) (v := .int .i64 a.i) (by simp [go_sem])
  have ac_0 := cell_below hb1 (a := ⟨w.heap.size, 2, none⟩) (v := .string a.s) (by simp [go_sem])
  have ba_0 := cell_below hb1 (a := ⟨w.heap.size + 1, 0, none⟩) (v := .int .i64 b.k) (by simp [go_sem])
  have bb_0 := cell_below hb1 (a := ⟨w.heap.size + 1, 1, none⟩) (v := .int .i64 b.i) (by simp [go_sem])
  have bc_0 := cell_below hb1 (a := ⟨w.heap.size + 1, 2, none⟩) (v := .string b.s) (by simp [go_sem])
  have fz_0 : ∀ o, w1.frozen? ⟨w.heap.size + 1 + 1, o, none⟩ = false := fun o => by rw [(bcell hb1).2 _ _ (by simp)]; simp [go_sem]
  have hzra_0 : w.heap.size + 1 + 1 < w1.heap.size := lt_of_cell ra_0
  have hB_0 := later (w := w) (by go_grown) hb1
  clear hb1 hc
  rw [hwh] at hwa
  rw [hwh2] at hwb
  clear hwh hwh2
  go_wp2_with fail
  refine (hwa _).mono ?_
  rintro e w2 ⟨rfl, hb2⟩
  have ra_1 := cell_below hb2 ra_0
  have rb_1 := cell_below hb2 rb_0
  have rc_1 := cell_below hb2 rc_0
  have aa_1 := cell_below hb2 aa_0
  have ab_1 := cell_below hb2 ab_0
  have ac_1 := cell_below hb2 ac_0
  have ba_1 := cell_below hb2 ba_0
  have bb_1 := cell_below hb2 bb_0
  have bc_1 := cell_below hb2 bc_0
  have fz_1 : ∀ o, World.frozen? w2 ⟨w.heap.size + 1 + 1, o, none⟩ = false := fun o => by rw [(bcell hb2).2 _ _ (lt_of_cell ra_0)]; exact fz_0 o
  have hzra_1 : w.heap.size + 1 + 1 < w2.heap.size := lt_of_cell ra_1
  have hB_1 := later hB_0 hb2
  clear ra_0 rb_0 rc_0 aa_0 ab_0 ac_0 ba_0 bb_0 bc_0 fz_0 
  go_wp2_with fail
  refine (hwb _).mono ?_
  rintro e w3 ⟨rfl, hb3⟩
  have ra_2 := cell_below hb3 ra_1
  have rb_2 := cell_below hb3 rb_1
  have rc_2 := cell_below hb3 rc_1
  have aa_2 := cell_below hb3 aa_1
  have ab_2 := cell_below hb3 ab_1
  have ac_2 := cell_below hb3 ac_1
  have ba_2 := cell_below hb3 ba_1
  have bb_2 := cell_below hb3 bb_1
  have bc_2 := cell_below hb3 bc_1
  have fz_2 : ∀ o, World.frozen? w3 ⟨w.heap.size + 1 + 1, o, none⟩ = false := fun o => by rw [(bcell hb3).2 _ _ (lt_of_cell ra_1)]; exact fz_1 o
  have hzra_2 : w.heap.size + 1 + 1 < w3.heap.size := lt_of_cell ra_2
  have hB_2 := later hB_1 hb3
  clear ra_1 rb_1 rc_1 aa_1 ab_1 ac_1 ba_1 bb_1 bc_1 fz_1 
  go_wp2_with fail
  refine (hn _ _ (VS.made [a, b] (by first | (with_reducible rfl) | simp | simp [go_sem]) rfl rfl (by simp))).mono ?_
  rintro e w4 ⟨rfl, hb4⟩
  have ra_3 := cell_below hb4 (cell_alloc ra_2)
  have rb_3 := cell_below hb4 (cell_alloc rb_2)
  have rc_3 := cell_below hb4 (cell_alloc rc_2)
  have aa_3 := cell_below hb4 (cell_alloc aa_2)
  have ab_3 := cell_below hb4 (cell_alloc ab_2)
  have ac_3 := cell_below hb4 (cell_alloc ac_2)
  have ba_3 := cell_below hb4 (cell_alloc ba_2)
  have bb_3 := cell_below hb4 (cell_alloc bb_2)
  have bc_3 := cell_below hb4 (cell_alloc bc_2)
  have fz_3 : ∀ o, w4.frozen? ⟨w.heap.size + 1 + 1, o, none⟩ = false := fun o => by rw [(bcell hb4).2 _ _ (lt_of_cell (cell_alloc ra_2)), frozen_alloc (lt_of_cell ra_2)]; exact fz_2 o
  have hzra_3 : w.heap.size + 1 + 1 < w4.heap.size := lt_of_cell ra_3
  have hB_3 := later (hB_2.alloc hB_2.size _) hb4
  clear ra_2 rb_2 rc_2 aa_2 ab_2 ac_2 ba_2 bb_2 bc_2 fz_2
  go_wp2
  refine bodyPost_ret (ret_cells3 rfl rfl (by first | with_reducible exact stored3 ra_3 rb_3 rc_3 | with_reducible exact cells3_alloc (stored3 ra_3 rb_3 rc_3) | with_reducible exact cells3_alloc (cells3_alloc (stored3 ra_3 rb_3 rc_3))) (Tryd.isAgg23 _) (Tryd.sizeOf23 _)) rfl ?_
  exact Rets.mk rfl (by go_grown)

theorem scalar_Join (a b : GV) (w : World) (ha : I64 a.i) (hb : I64 b.i) (hs : a.s.size + b.s.size ≤ 9223372036854775807) :
    Calls Tryd.prog 14 #[a.val, b.val] w (Rets (.tuple #[(joinS a b).1.val, .int .i64 (joinS a b).2]) w) := by
  unfold joinS
  cases hq : (a.ok && b.ok) with
  | false => exact Join_bad a b w ha hb hq
  | true =>
    cases h1 : wholeB a with
    | true => exact Join_wholea a b w ha hb hq h1
    | false =>
      cases h2 : wholeB b with
      | true => exact Join_wholeb a b w ha hb hq h1 h2
      | false =>
        cases h3 : (a.k == 0 || b.k == 0) with
        | true => exact Join_null a b w ha hb hq h1 h2 h3
        | false =>
          cases h4 : (a.k != b.k) with
          | true => exact Join_kind a b w ha hb hq h1 h2 h3 h4
          | false => exact Join_ok a b w ha hb hq h1 h2 h3 h4 hs
end Go.Proofs.YtddnkjeogidfcaaDoor
