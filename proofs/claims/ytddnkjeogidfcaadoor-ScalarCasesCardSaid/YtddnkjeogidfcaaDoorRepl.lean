/-  scalar.replace of a text by itself: the text stays. -/
import Derived.Test.YtddnkjeogidfcaaDoorOf
namespace Go.Proofs.YtddnkjeogidfcaaDoor
open Go.RowKit Go.Shelf Go

set_option maxHeartbeats 400000 in
theorem replaceAll_same (s t : ByteArray) (w : World) :
    Calls Tryd.prog 73 #[.string s, .string t, .string t] w (Rets (.string s) w) := by
  have hr := fun W => Tryd.strings_Replace_none s t t (-1) W (.inl rfl)
  go_enter Tryd.func73, Tryd.ntmps73
  go_wp2_with fail
  refine (hr _).mono ?_
  rintro e w1 ⟨rfl, rfl⟩
  go_wp2
  go_returns
  exact Rets.mk rfl (Below.refl _ _)

set_option maxHeartbeats 1000000 in
theorem do_replace_same (s t : ByteArray) (v : Value) (w : World) (hv : VS w v [GV.text s, GV.text t, GV.text t]) (hs : s.size ≤ 100000) (hm : SomeMax w) :
    Calls Tryd.prog 56 #[v] w (Rets (.tuple #[(GV.text s).val, .int .i64 0]) w) := by
  obtain ⟨b, o, c, rfl, hc⟩ := hv.row (by simp)
  obtain ⟨m, hm⟩ := hm
  obtain ⟨x0, x1, x2⟩ := hc 0 _ rfl
  obtain ⟨y0, y1, y2⟩ := hc 1 _ rfl
  obtain ⟨z0, z1, z2⟩ := hc 2 _ rfl
  rw [Nat.zero_mul, Nat.add_zero] at x0 x1 x2
  rw [Nat.one_mul] at y0 y1 y2
  simp only [Nat.reduceMul] at z0 z1 z2
  have hlen : [GV.text s, GV.text t, GV.text t].length = 3 := rfl
  rw [hlen]
  clear hc hv hlen
  simp only [GV.text] at x0 x1 x2 y0 y1 y2 z0 z1 z2
  unfold GV.val GV.text
  have hzb : b < w.heap.size := lt_of_cell x0
  have hzb' : b < w.heap.size + 1 := by omega
  have hR := fun W => replaceAll_same s t W
  have hT := fun W => scalar_text s W
  unfold GV.val GV.text at hT
  by_cases h0 : t.toList = []
  · have h0' : (t.toList == []) = true := beq_iff_eq.2 h0
    clear h0
    go_enter Tryd.func56, Tryd.ntmps56
    go_wp2
    go_quiet (fail)
    have r0 : ((w.alloc (.cells #[.int .i64 0, .int .i64 0, .string ⟨#[]⟩] 23)).drewN nq).cell? ⟨w.heap.size, 0, none⟩ = some (.int .i64 0) := by simp [go_sem]
    have r1 : ((w.alloc (.cells #[.int .i64 0, .int .i64 0, .string ⟨#[]⟩] 23)).drewN nq).cell? ⟨w.heap.size, 1, none⟩ = some (.int .i64 0) := by simp [go_sem]
    have r2 : ((w.alloc (.cells #[.int .i64 0, .int .i64 0, .string ⟨#[]⟩] 23)).drewN nq).cell? ⟨w.heap.size, 2, none⟩ = some (.string ⟨#[]⟩) := by simp [go_sem]
    have hB : Below w.heap.size w ((w.alloc (.cells #[.int .i64 0, .int .i64 0, .string ⟨#[]⟩] 23)).drewN nq) := belowN ((Below.refl _ _).alloc (Nat.le_refl _) _) _
    go_wp2
    refine bodyPost_ret (ret_cells3 rfl rfl (by with_reducible exact stored3 r0 r1 r2) (Tryd.isAgg23 _) (Tryd.sizeOf23 _)) rfl ?_
    exact Rets.mk rfl (((hB.setCell (Nat.le_refl _) _).setCell (Nat.le_refl _) _).setCell (Nat.le_refl _) _)
  · have h0' : (t.toList == []) = false := beq_eq_false_iff_ne.2 h0
    have h1 : 1 ≤ t.size := by
      rw [Go.ByteArray.toList_eq] at h0
      have : t.size = t.data.toList.length := rfl
      rw [this]
      exact List.length_pos_iff.2 h0
    have hC := fun W (h : W.cell? ⟨0, 0, none⟩ = some (.int .i64 m)) => Tryd.strings_Count_any s t m W (by omega) h h1
    generalize Lib.countB s t = cnt at *
    clear h0 h1
    generalize hsz : s.size = z at *
    generalize htz : t.size = tz at *
    go_enter Tryd.func56, Tryd.ntmps56
    go_wp2
    go_quiet (fail)
    have r0 : ((w.alloc (.cells #[.int .i64 0, .int .i64 0, .string ⟨#[]⟩] 23)).drewN nq).cell? ⟨w.heap.size, 0, none⟩ = some (.int .i64 0) := by simp [go_sem]
    have r1 : ((w.alloc (.cells #[.int .i64 0, .int .i64 0, .string ⟨#[]⟩] 23)).drewN nq).cell? ⟨w.heap.size, 1, none⟩ = some (.int .i64 0) := by simp [go_sem]
    have r2 : ((w.alloc (.cells #[.int .i64 0, .int .i64 0, .string ⟨#[]⟩] 23)).drewN nq).cell? ⟨w.heap.size, 2, none⟩ = some (.string ⟨#[]⟩) := by simp [go_sem]
    have hB : Below w.heap.size w ((w.alloc (.cells #[.int .i64 0, .int .i64 0, .string ⟨#[]⟩] 23)).drewN nq) := belowN ((Below.refl _ _).alloc (Nat.le_refl _) _) _
    have hm2 := cell_below hB hm
    have hf2 : ∀ o, ((w.alloc (.cells #[.int .i64 0, .int .i64 0, .string ⟨#[]⟩] 23)).drewN nq).frozen? ⟨w.heap.size, o, none⟩ = false := fun o => by simp [go_sem]
    generalize (w.alloc (.cells #[.int .i64 0, .int .i64 0, .string ⟨#[]⟩] 23)).drewN nq = w1 at *
    have hz1 : w.heap.size < w1.heap.size := lt_of_cell r0
    go_wp2_with fail
    refine (hC _ hm2).mono ?_
    rintro e w2 ⟨rfl, hw⟩
    obtain rfl : w1 = w2 := hw.symm
    go_wp2_with fail
    refine (hR _).mono ?_
    rintro e w3 ⟨rfl, hb3⟩
    have q0 := cell_below hb3 r0
    have q1 := cell_below hb3 r1
    have q2 := cell_below hb3 r2
    have hf3 : ∀ o, w3.frozen? ⟨w.heap.size, o, none⟩ = false := fun o => by rw [(bcell hb3).2 _ _ (lt_of_cell r0)]; exact hf2 o
    have hB3 := later hB hb3
    have hz3 : w.heap.size < w3.heap.size := lt_of_cell q0
    go_wp2_with fail
    refine (hT _).mono ?_
    rintro e w4 ⟨rfl, hb4⟩
    have p0 := cell_below hb4 q0
    have p1 := cell_below hb4 q1
    have p2 := cell_below hb4 q2
    have hf4 : ∀ o, w4.frozen? ⟨w.heap.size, o, none⟩ = false := fun o => by rw [(bcell hb4).2 _ _ (lt_of_cell q0)]; exact hf3 o
    have hB4 := later hB3 hb4
    have hz4 : w.heap.size < w4.heap.size := lt_of_cell p0
    clear r0 r1 r2 q0 q1 q2 hf2 hf3 hB hB3 hb3 hb4
    go_wp2
    refine bodyPost_ret (ret_cells3 rfl rfl (by with_reducible exact stored3 p0 p1 p2) (Tryd.isAgg23 _) (Tryd.sizeOf23 _)) rfl ?_
    exact Rets.mk rfl (((hB4.setCell (Nat.le_refl _) _).setCell (Nat.le_refl _) _).setCell (Nat.le_refl _) _)

theorem does_replace_same (s t : ByteArray) (hs : s.size ≤ 100000) : Does 8 [GV.text s, GV.text t, GV.text t] (GV.text s, 0) := fun n W v hm _ hv =>
  ⟨_, _, rfl, enters_of Tryd.func56 (by kernel_rfl) rfl, do_replace_same s t v W hv hs hm⟩
end Go.Proofs.YtddnkjeogidfcaaDoor
