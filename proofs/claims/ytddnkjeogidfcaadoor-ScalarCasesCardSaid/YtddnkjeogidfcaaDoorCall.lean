/-  scalar.Call: each way through it. -/
import Derived.Test.YtddnkjeogidfcaaDoorSame
namespace Go.Proofs.YtddnkjeogidfcaaDoor
open Go.RowKit Go.Shelf Go

abbrev CallF : Nat := 18

set_option maxHeartbeats 1000000 in
theorem Call_bad1 (name : ByteArray) (v : Value) (l : List GV) (w : World) (hv : VS w v l) (lo hi : Int) (is : Bool) (har : ∀ W, Calls Tryd.prog 20 #[.string name] W (Rets (.tuple #[.int .i64 lo, .int .i64 hi, .bool is]) W))
    (hck : ∀ W, VS W v l → Calls Tryd.prog 22 #[v] W (Rets (.bool false) W))  :
    Calls Tryd.prog 18 #[.string name, v] w (Rets (.tuple #[GV.none.val, .int .i64 1]) w) := by
  have hv0 := Lib.hid hv
  obtain ⟨A, c, rfl, hlen, hcell⟩ := hv
  generalize hn : l.length = n at *
  have HN := Lib.hid hn; clear hn
  go_enter Tryd.func18, Tryd.ntmps18
  go_wp2_with fail
  refine (har _).mono ?_
  rintro e w1 ⟨rfl, hb1⟩
  have r0 := cell_below hb1 (a := ⟨w.heap.size, 0, none⟩) (v := .int .i64 0) (by simp [go_sem])
  have r1 := cell_below hb1 (a := ⟨w.heap.size, 1, none⟩) (v := .int .i64 0) (by simp [go_sem])
  have r2 := cell_below hb1 (a := ⟨w.heap.size, 2, none⟩) (v := .string ⟨#[]⟩) (by simp [go_sem])
  have z1 : ∀ o, w1.frozen? ⟨w.heap.size, o, none⟩ = false := fun o => by rw [(bcell hb1).2 _ _ (by simp)]; simp [go_sem]
  have hB1 := later (w := w) (by go_grown) hb1
  clear hb1
  go_wp2_with fail
  refine (hck _ (hv0.out.below hB1)).mono ?_
  rintro e w2 ⟨rfl, hb2⟩
  have q0 := cell_below hb2 r0
  have q1 := cell_below hb2 r1
  have q2 := cell_below hb2 r2
  have hz : w.heap.size < w2.heap.size := lt_of_cell q0
  have z2 : ∀ o, w2.frozen? ⟨w.heap.size, o, none⟩ = false := fun o => by rw [(bcell hb2).2 _ _ (lt_of_cell r0)]; exact z1 o
  have hB := later hB1 hb2
  clear r0 r1 r2 z1 hB1 hb2 hck har
  clear hcell hlen
  go_wp2
  refine bodyPost_ret (ret_cells3 rfl rfl (by first | with_reducible exact stored3 q0 q1 q2 | with_reducible exact cells3_alloc (stored3 q0 q1 q2) | with_reducible exact cells3_alloc (cells3_alloc (stored3 q0 q1 q2))) (Tryd.isAgg23 _) (Tryd.sizeOf23 _)) rfl ?_
  exact Rets.mk rfl (by go_grown)

set_option maxHeartbeats 1000000 in
theorem Call_bad2 (name : ByteArray) (v : Value) (l : List GV) (w : World) (hv : VS w v l) (lo hi : Int) (is : Bool) (har : ∀ W, Calls Tryd.prog 20 #[.string name] W (Rets (.tuple #[.int .i64 lo, .int .i64 hi, .bool false]) W))
    (hck : ∀ W, VS W v l → Calls Tryd.prog 22 #[v] W (Rets (.bool true) W)) (_ : is = false) :
    Calls Tryd.prog 18 #[.string name, v] w (Rets (.tuple #[GV.none.val, .int .i64 1]) w) := by
  have hv0 := Lib.hid hv
  obtain ⟨A, c, rfl, hlen, hcell⟩ := hv
  generalize hn : l.length = n at *
  have HN := Lib.hid hn; clear hn
  go_enter Tryd.func18, Tryd.ntmps18
  go_wp2_with fail
  refine (har _).mono ?_
  rintro e w1 ⟨rfl, hb1⟩
  have r0 := cell_below hb1 (a := ⟨w.heap.size, 0, none⟩) (v := .int .i64 0) (by simp [go_sem])
  have r1 := cell_below hb1 (a := ⟨w.heap.size, 1, none⟩) (v := .int .i64 0) (by simp [go_sem])
  have r2 := cell_below hb1 (a := ⟨w.heap.size, 2, none⟩) (v := .string ⟨#[]⟩) (by simp [go_sem])
  have z1 : ∀ o, w1.frozen? ⟨w.heap.size, o, none⟩ = false := fun o => by rw [(bcell hb1).2 _ _ (by simp)]; simp [go_sem]
  have hB1 := later (w := w) (by go_grown) hb1
  clear hb1
  go_wp2_with fail
  refine (hck _ (hv0.out.below hB1)).mono ?_
  rintro e w2 ⟨rfl, hb2⟩
  have q0 := cell_below hb2 r0
  have q1 := cell_below hb2 r1
  have q2 := cell_below hb2 r2
  have hz : w.heap.size < w2.heap.size := lt_of_cell q0
  have z2 : ∀ o, w2.frozen? ⟨w.heap.size, o, none⟩ = false := fun o => by rw [(bcell hb2).2 _ _ (lt_of_cell r0)]; exact z1 o
  have hB := later hB1 hb2
  clear r0 r1 r2 z1 hB1 hb2 hck har
  clear hcell hlen
  go_wp2
  refine bodyPost_ret (ret_cells3 rfl rfl (by first | with_reducible exact stored3 q0 q1 q2 | with_reducible exact cells3_alloc (stored3 q0 q1 q2) | with_reducible exact cells3_alloc (cells3_alloc (stored3 q0 q1 q2))) (Tryd.isAgg23 _) (Tryd.sizeOf23 _)) rfl ?_
  exact Rets.mk rfl (by go_grown)

set_option maxHeartbeats 1000000 in
theorem Call_bad3 (name : ByteArray) (v : Value) (l : List GV) (w : World) (hv : VS w v l) (lo hi : Int) (is : Bool) (har : ∀ W, Calls Tryd.prog 20 #[.string name] W (Rets (.tuple #[.int .i64 lo, .int .i64 hi, .bool true]) W))
    (hck : ∀ W, VS W v l → Calls Tryd.prog 22 #[v] W (Rets (.bool true) W)) (hl : (l.length : Int) < lo) :
    Calls Tryd.prog 18 #[.string name, v] w (Rets (.tuple #[GV.none.val, .int .i64 1]) w) := by
  have hv0 := Lib.hid hv
  obtain ⟨A, c, rfl, hlen, hcell⟩ := hv
  generalize hn : l.length = n at *
  have HN := Lib.hid hn; clear hn
  go_enter Tryd.func18, Tryd.ntmps18
  go_wp2_with fail
  refine (har _).mono ?_
  rintro e w1 ⟨rfl, hb1⟩
  have r0 := cell_below hb1 (a := ⟨w.heap.size, 0, none⟩) (v := .int .i64 0) (by simp [go_sem])
  have r1 := cell_below hb1 (a := ⟨w.heap.size, 1, none⟩) (v := .int .i64 0) (by simp [go_sem])
  have r2 := cell_below hb1 (a := ⟨w.heap.size, 2, none⟩) (v := .string ⟨#[]⟩) (by simp [go_sem])
  have z1 : ∀ o, w1.frozen? ⟨w.heap.size, o, none⟩ = false := fun o => by rw [(bcell hb1).2 _ _ (by simp)]; simp [go_sem]
  have hB1 := later (w := w) (by go_grown) hb1
  clear hb1
  go_wp2_with fail
  refine (hck _ (hv0.out.below hB1)).mono ?_
  rintro e w2 ⟨rfl, hb2⟩
  have q0 := cell_below hb2 r0
  have q1 := cell_below hb2 r1
  have q2 := cell_below hb2 r2
  have hz : w.heap.size < w2.heap.size := lt_of_cell q0
  have z2 : ∀ o, w2.frozen? ⟨w.heap.size, o, none⟩ = false := fun o => by rw [(bcell hb2).2 _ _ (lt_of_cell r0)]; exact z1 o
  have hB := later hB1 hb2
  clear r0 r1 r2 z1 hB1 hb2 hck har
  clear hcell hlen
  go_wp2
  refine bodyPost_ret (ret_cells3 rfl rfl (by first | with_reducible exact stored3 q0 q1 q2 | with_reducible exact cells3_alloc (stored3 q0 q1 q2) | with_reducible exact cells3_alloc (cells3_alloc (stored3 q0 q1 q2))) (Tryd.isAgg23 _) (Tryd.sizeOf23 _)) rfl ?_
  exact Rets.mk rfl (by go_grown)

set_option maxHeartbeats 1000000 in
theorem Call_bad4 (name : ByteArray) (v : Value) (l : List GV) (w : World) (hv : VS w v l) (lo hi : Int) (is : Bool) (har : ∀ W, Calls Tryd.prog 20 #[.string name] W (Rets (.tuple #[.int .i64 lo, .int .i64 hi, .bool true]) W))
    (hck : ∀ W, VS W v l → Calls Tryd.prog 22 #[v] W (Rets (.bool true) W)) (hl : ¬ (l.length : Int) < lo) (hh : 0 ≤ hi) (hg : hi < (l.length : Int)) :
    Calls Tryd.prog 18 #[.string name, v] w (Rets (.tuple #[GV.none.val, .int .i64 1]) w) := by
  have hv0 := Lib.hid hv
  obtain ⟨A, c, rfl, hlen, hcell⟩ := hv
  generalize hn : l.length = n at *
  have HN := Lib.hid hn; clear hn
  go_enter Tryd.func18, Tryd.ntmps18
  go_wp2_with fail
  refine (har _).mono ?_
  rintro e w1 ⟨rfl, hb1⟩
  have r0 := cell_below hb1 (a := ⟨w.heap.size, 0, none⟩) (v := .int .i64 0) (by simp [go_sem])
  have r1 := cell_below hb1 (a := ⟨w.heap.size, 1, none⟩) (v := .int .i64 0) (by simp [go_sem])
  have r2 := cell_below hb1 (a := ⟨w.heap.size, 2, none⟩) (v := .string ⟨#[]⟩) (by simp [go_sem])
  have z1 : ∀ o, w1.frozen? ⟨w.heap.size, o, none⟩ = false := fun o => by rw [(bcell hb1).2 _ _ (by simp)]; simp [go_sem]
  have hB1 := later (w := w) (by go_grown) hb1
  clear hb1
  go_wp2_with fail
  refine (hck _ (hv0.out.below hB1)).mono ?_
  rintro e w2 ⟨rfl, hb2⟩
  have q0 := cell_below hb2 r0
  have q1 := cell_below hb2 r1
  have q2 := cell_below hb2 r2
  have hz : w.heap.size < w2.heap.size := lt_of_cell q0
  have z2 : ∀ o, w2.frozen? ⟨w.heap.size, o, none⟩ = false := fun o => by rw [(bcell hb2).2 _ _ (lt_of_cell r0)]; exact z1 o
  have hB := later hB1 hb2
  clear r0 r1 r2 z1 hB1 hb2 hck har
  clear hcell hlen
  go_wp2
  refine bodyPost_ret (ret_cells3 rfl rfl (by first | with_reducible exact stored3 q0 q1 q2 | with_reducible exact cells3_alloc (stored3 q0 q1 q2) | with_reducible exact cells3_alloc (cells3_alloc (stored3 q0 q1 q2))) (Tryd.isAgg23 _) (Tryd.sizeOf23 _)) rfl ?_
  exact Rets.mk rfl (by go_grown)

theorem call_1 (v : GV) (w : World) :
    Calls Tryd.prog 31 #[v.val] w (Rets (.bool (v.k != 0)) w) := by
  unfold GV.val at *
  go_enter Tryd.func31, Tryd.ntmps31
  go_wp2
  go_returns
  exact Rets.bool rfl ((Below.refl _ _).alloc (Nat.le_refl _) _)

set_option maxHeartbeats 1000000 in
theorem Call_coalesce (name : ByteArray) (v : Value) (l : List GV) (w : World) (hv : VS w v l) (lo hi : Int) (is : Bool) (har : ∀ W, Calls Tryd.prog 20 #[.string name] W (Rets (.tuple #[.int .i64 lo, .int .i64 hi, .bool true]) W))
    (hck : ∀ W, VS W v l → Calls Tryd.prog 22 #[v] W (Rets (.bool true) W)) (hl : ¬ (l.length : Int) < lo) (hh : hi < 0) (e1 : (name.toList == [99, 111, 97, 108, 101, 115, 99, 101]) = true) (j : Nat) (x : GV) (hj : l[j]? = some x) (hm : max (idxOf (fun v => v.k != 0) l) 0 = j) :
    Calls Tryd.prog 18 #[.string name, v] w (Rets (.tuple #[x.val, .int .i64 0]) w) := by
  have hv0 := Lib.hid hv
  obtain ⟨A, c, rfl, hlen, hcell⟩ := hv
  generalize hn : l.length = n at *
  have HN := Lib.hid hn; clear hn
  obtain ⟨b, o, rfl, c0, c1, c2⟩ := hcell j x hj
  have hjn : j < n := by have := (List.getElem?_eq_some_iff.1 hj).1; rw [HN.out] at this; exact this
  clear hcell
  have HJ := Lib.hid hj; clear hj
  go_enter Tryd.func18, Tryd.ntmps18
  go_wp2_with fail
  refine (har _).mono ?_
  rintro e w1 ⟨rfl, hb1⟩
  have r0 := cell_below hb1 (a := ⟨w.heap.size, 0, none⟩) (v := .int .i64 0) (by simp [go_sem])
  have r1 := cell_below hb1 (a := ⟨w.heap.size, 1, none⟩) (v := .int .i64 0) (by simp [go_sem])
  have r2 := cell_below hb1 (a := ⟨w.heap.size, 2, none⟩) (v := .string ⟨#[]⟩) (by simp [go_sem])
  have z1 : ∀ o, w1.frozen? ⟨w.heap.size, o, none⟩ = false := fun o => by rw [(bcell hb1).2 _ _ (by simp)]; simp [go_sem]
  have hB1 := later (w := w) (by go_grown) hb1
  clear hb1
  go_wp2_with fail
  refine (hck _ (hv0.out.below hB1)).mono ?_
  rintro e w2 ⟨rfl, hb2⟩
  have q0 := cell_below hb2 r0
  have q1 := cell_below hb2 r1
  have q2 := cell_below hb2 r2
  have hz : w.heap.size < w2.heap.size := lt_of_cell q0
  have z2 : ∀ o, w2.frozen? ⟨w.heap.size, o, none⟩ = false := fun o => by rw [(bcell hb2).2 _ _ (lt_of_cell r0)]; exact z1 o
  have hB := later hB1 hb2
  clear r0 r1 r2 z1 hB1 hb2 hck har
  have hx := slices_IndexFunc 31 #[] (enters_of Tryd.func31 (by kernel_rfl) rfl) (fun x => x.k != 0) _ l w2 (hv0.out.below hB) (fun W _ x _ => call_1 x W)
  generalize idxOf (fun v => v.k != 0) l = m at *
  have hm0 : 0 ≤ max m 0 := by omega
  have hm1 : max m 0 < (n : Int) := by omega
  have hm2 : (max m 0).toNat = j := by omega
  rw [← hm2] at c0 c1 c2
  have d0 := cell_below hB c0
  have d1 := cell_below hB c1
  have d2 := cell_below hB c2
  clear c0 c1 c2 hm hm2 hjn
  unfold GV.val
  go_wp2_with fail
  refine hx.mono ?_
  rintro e w3 ⟨rfl, hb3⟩
  have p0 := cell_below hb3 q0
  have p1 := cell_below hb3 q1
  have p2 := cell_below hb3 q2
  have f0 := cell_below hb3 d0
  have f1 := cell_below hb3 d1
  have f2 := cell_below hb3 d2
  have hz3 : w.heap.size < w3.heap.size := lt_of_cell p0
  have z3 : ∀ o, w3.frozen? ⟨w.heap.size, o, none⟩ = false := fun o => by rw [(bcell hb3).2 _ _ (lt_of_cell q0)]; exact z2 o
  have hB3 := later hB hb3
  clear q0 q1 q2 d0 d1 d2 z2 hz hB hx hb3
  go_wp2
  refine bodyPost_ret (ret_cells3 rfl rfl (by first | with_reducible exact stored3 p0 p1 p2 | with_reducible exact cells3_alloc (stored3 p0 p1 p2) | with_reducible exact cells3_alloc (cells3_alloc (stored3 p0 p1 p2))) (Tryd.isAgg23 _) (Tryd.sizeOf23 _)) rfl ?_
  exact Rets.mk rfl (by go_grown)

set_option maxHeartbeats 1000000 in
theorem Call_nullif (name : ByteArray) (v : Value) (l : List GV) (w : World) (hv : VS w v l) (lo hi : Int) (is : Bool) (har : ∀ W, Calls Tryd.prog 20 #[.string name] W (Rets (.tuple #[.int .i64 lo, .int .i64 hi, .bool true]) W))
    (hck : ∀ W, VS W v l → Calls Tryd.prog 22 #[v] W (Rets (.bool true) W)) (hl : ¬ (l.length : Int) < lo) (hh : hi < 0 ∨ ¬ hi < (l.length : Int)) (e1 : (name.toList == [99, 111, 97, 108, 101, 115, 99, 101]) = false) (e2 : (name.toList == [110, 117, 108, 108, 105, 102]) = true) (x y : GV) (h0 : l[0]? = some x) (h1 : l[1]? = some y) (q : Bool) (hq : sameB x y = q) (r : GV) (hr : r = if q then GV.none else x) :
    Calls Tryd.prog 18 #[.string name, v] w (Rets (.tuple #[r.val, .int .i64 0]) w) := by
  have hv0 := Lib.hid hv
  obtain ⟨A, c, rfl, hlen, hcell⟩ := hv
  generalize hn : l.length = n at *
  have HN := Lib.hid hn; clear hn
  obtain ⟨b, o, rfl, c0, c1, c2⟩ := hcell 0 x h0
  obtain ⟨b', o', he, g0, g1, g2⟩ := hcell 1 y h1
  simp only [Option.some.injEq, Addr.mk.injEq, and_true] at he
  obtain ⟨rfl, rfl⟩ := he
  have hn1 : 1 < n := by have := (List.getElem?_eq_some_iff.1 h1).1; rw [HN.out] at this; exact this
  have hn0 : 0 < n := by omega
  rw [Nat.zero_mul, Nat.add_zero] at c0 c1 c2
  rw [Nat.one_mul] at g0 g1 g2
  have hs := fun W => value_Same x y W
  rw [hq] at hs
  clear hcell h0 h1 hq
  have HR := Lib.hid hr; clear hr
  go_enter Tryd.func18, Tryd.ntmps18
  go_wp2_with fail
  refine (har _).mono ?_
  rintro e w1 ⟨rfl, hb1⟩
  have r0 := cell_below hb1 (a := ⟨w.heap.size, 0, none⟩) (v := .int .i64 0) (by simp [go_sem])
  have r1 := cell_below hb1 (a := ⟨w.heap.size, 1, none⟩) (v := .int .i64 0) (by simp [go_sem])
  have r2 := cell_below hb1 (a := ⟨w.heap.size, 2, none⟩) (v := .string ⟨#[]⟩) (by simp [go_sem])
  have z1 : ∀ o, w1.frozen? ⟨w.heap.size, o, none⟩ = false := fun o => by rw [(bcell hb1).2 _ _ (by simp)]; simp [go_sem]
  have hB1 := later (w := w) (by go_grown) hb1
  clear hb1
  go_wp2_with fail
  refine (hck _ (hv0.out.below hB1)).mono ?_
  rintro e w2 ⟨rfl, hb2⟩
  have q0 := cell_below hb2 r0
  have q1 := cell_below hb2 r1
  have q2 := cell_below hb2 r2
  have hz : w.heap.size < w2.heap.size := lt_of_cell q0
  have z2 : ∀ o, w2.frozen? ⟨w.heap.size, o, none⟩ = false := fun o => by rw [(bcell hb2).2 _ _ (lt_of_cell r0)]; exact z1 o
  have hB := later hB1 hb2
  clear r0 r1 r2 z1 hB1 hb2 hck har
  have d0 := cell_below hB c0
  have d1 := cell_below hB c1
  have d2 := cell_below hB c2
  have e0 := cell_below hB g0
  have e1' := cell_below hB g1
  have e2' := cell_below hB g2
  have hzb : b < w2.heap.size := lt_of_cell d0
  have hi0 : (0 : Int) < (n : Int) := by omega
  have hi1 : (1 : Int) < (n : Int) := by omega
  clear c0 c1 c2 g0 g1 g2
  unfold GV.val at hs
  rcases hh with hh | hh
  all_goals
    go_wp2_with fail
    refine wp_region_later (by kernel_rfl) (by kernel_rfl) ?_
    repeat (go_big_quiet_step (exact Calls.quiet_later (hs _) (fun _ _ h => h)))
    refine wpQuiet_nil ?_
    rintro w3 ⟨u, rfl⟩
    have hb3 := laterW_below _ u
    generalize laterW _ u = w3 at *
    have p0 := cell_below hb3 q0
    have p1 := cell_below hb3 q1
    have p2 := cell_below hb3 q2
    have f0 := cell_below hb3 d0
    have f1 := cell_below hb3 d1
    have f2 := cell_below hb3 d2
    have hz3 : w.heap.size < w3.heap.size := lt_of_cell p0
    have z3 : ∀ o, w3.frozen? ⟨w.heap.size, o, none⟩ = false := fun o => by rw [(bcell hb3).2 _ _ (lt_of_cell q0)]; exact z2 o
    have hB3 := later hB hb3
    clear q0 q1 q2 d0 d1 d2 e0 e1' e2' z2 hz hB hs hb3 hzb
    cases q
    all_goals
      go_wp2
      refine bodyPost_ret (ret_cells3 rfl rfl (by first | with_reducible exact stored3 p0 p1 p2) (Tryd.isAgg23 _) (Tryd.sizeOf23 _)) rfl ?_
      exact Rets.mk (by rw [HR.out]; rfl) (by go_grown)

end Go.Proofs.YtddnkjeogidfcaaDoor
