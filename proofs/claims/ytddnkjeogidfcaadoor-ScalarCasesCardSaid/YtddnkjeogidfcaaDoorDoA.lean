/-  What the table's functions do: substr, instr, length, abs, sign. -/
import Derived.Test.YtddnkjeogidfcaaDoorCallT
namespace Go.Proofs.YtddnkjeogidfcaaDoor
open Go.RowKit Go.Shelf Go

theorem VS.row {w : World} {v : Value} {l : List GV} (h : VS w v l) (h0 : 0 < l.length) : ∃ b o c : Nat, v = .slice (some ⟨b, o, none⟩) l.length c ∧ ∀ (j : Nat) (x : GV), l[j]? = some x →
    w.cell? ⟨b, o + j * 3, none⟩ = some (.int .i64 x.k) ∧ w.cell? ⟨b, o + j * 3 + 1, none⟩ = some (.int .i64 x.i) ∧ w.cell? ⟨b, o + j * 3 + 2, none⟩ = some (.string x.s) := by
  obtain ⟨A, c, hv, hl, hc⟩ := h
  obtain ⟨b, o, rfl, _⟩ := hc 0 l[0] (List.getElem?_eq_getElem h0)
  refine ⟨b, o, c, hv, fun j x hj => ?_⟩
  obtain ⟨b', o', he, h1⟩ := hc j x hj
  simp only [Option.some.injEq, Addr.mk.injEq, and_true] at he
  obtain ⟨rfl, rfl⟩ := he
  exact h1

/-- A piece of a text: from the place f on, n bytes at the most. -/
def cutS (s : ByteArray) (f n : Int) : ByteArray := (s.extract (min (f - 1) (s.size : Int)).toNat s.size).extract 0 (min n ((s.extract (min (f - 1) (s.size : Int)).toNat s.size).size : Int)).toNat

def substrS (x : GV) (f n : Int) : GV × Int :=
  if n < 0 then (GV.none, 1)
  else if f < 1 then (if f + n ≤ 1 then (⟨x.k, 0, ⟨#[]⟩⟩, 0) else (⟨x.k, 0, cutS x.s 1 (f + n - 1)⟩, 0))
  else (⟨x.k, 0, cutS x.s f n⟩, 0)

theorem Rets.gv {v : GV} {e : Int} {r : GV × Int} {w w' : World} (h : r = (v, e)) (hb : Below w.heap.size w w') : Rets (.tuple #[r.1.val, .int .i64 r.2]) w (.returned (.tuple #[.agg #[.int .i64 v.k, .int .i64 v.i, .string v.s], .int .i64 e])) w' := ⟨by rw [h]; rfl, hb⟩

set_option maxHeartbeats 1000000 in
theorem do_substr (x y z : GV) (v : Value) (w : World) (hv : VS w v [x, y, z]) (hy : I64 y.i) (hz : I64 z.i) (hs : x.s.size ≤ 9223372036854775807) :
    Calls Tryd.prog 54 #[v] w (Rets (.tuple #[(substrS x y.i z.i).1.val, .int .i64 (substrS x y.i z.i).2]) w) := by
  obtain ⟨b, o, c, rfl, hc⟩ := hv.row (by simp)
  obtain ⟨x0, x1, x2⟩ := hc 0 x rfl
  obtain ⟨y0, y1, y2⟩ := hc 1 y rfl
  obtain ⟨z0, z1, z2⟩ := hc 2 z rfl
  rw [Nat.zero_mul, Nat.add_zero] at x0 x1 x2
  rw [Nat.one_mul] at y0 y1 y2
  simp only [Nat.reduceMul] at z0 z1 z2
  have hlen : [x, y, z].length = 3 := rfl
  rw [hlen]
  clear hc hv hlen
  generalize hp : substrS x y.i z.i = p
  have HP := Lib.hid hp; clear hp
  obtain ⟨xk, xi, s⟩ := x
  obtain ⟨yk, yi, ys⟩ := y
  obtain ⟨zk, zi, zs⟩ := z
  simp only at *
  have hzb : b < w.heap.size := lt_of_cell x0
  have hzb' : b < w.heap.size + 1 := by omega
  unfold I64 at hy hz
  go_enter Tryd.func54, Tryd.ntmps54
  go_wp2
  go_quiet (fail)
  have r0 : ((w.alloc (.cells #[.int .i64 0, .int .i64 0, .string ⟨#[]⟩] 23)).drewN nq).cell? ⟨w.heap.size, 0, none⟩ = some (.int .i64 0) := by simp [go_sem]
  have r1 : ((w.alloc (.cells #[.int .i64 0, .int .i64 0, .string ⟨#[]⟩] 23)).drewN nq).cell? ⟨w.heap.size, 1, none⟩ = some (.int .i64 0) := by simp [go_sem]
  have r2 : ((w.alloc (.cells #[.int .i64 0, .int .i64 0, .string ⟨#[]⟩] 23)).drewN nq).cell? ⟨w.heap.size, 2, none⟩ = some (.string ⟨#[]⟩) := by simp [go_sem]
  have hB : Below w.heap.size w ((w.alloc (.cells #[.int .i64 0, .int .i64 0, .string ⟨#[]⟩] 23)).drewN nq) := belowN ((Below.refl _ _).alloc (Nat.le_refl _) _) _
  go_wp2
  · have h1 : zi < 0 := by assumption
    refine bodyPost_ret (ret_cells3 rfl rfl (by with_reducible exact stored3 r0 r1 r2) (Tryd.isAgg23 _) (Tryd.sizeOf23 _)) rfl ?_
    exact Rets.gv (v := GV.none) (by rw [← HP.out]; unfold substrS; rw [if_pos h1]) (((hB.setCell (Nat.le_refl _) _).setCell (Nat.le_refl _) _).setCell (Nat.le_refl _) _)
  · have h1 : 0 ≤ zi := by assumption
    have h2 : yi < 1 := by assumption
    have h3 : yi + zi ≤ 1 := by assumption
    refine bodyPost_ret (ret_cells3 rfl rfl (by with_reducible exact stored3 r0 r1 r2) (Tryd.isAgg23 _) (Tryd.sizeOf23 _)) rfl ?_
    exact Rets.gv (v := ⟨xk, 0, ⟨#[]⟩⟩) (by rw [← HP.out]; unfold substrS; rw [if_neg (by omega), if_pos h2, if_pos h3]) (((hB.setCell (Nat.le_refl _) _).setCell (Nat.le_refl _) _).setCell (Nat.le_refl _) _)
  · have h1 : 0 ≤ zi := by assumption
    have h2 : yi < 1 := by assumption
    have h3 : ¬ yi + zi ≤ 1 := by omega
    have ht : (s.extract (min 0 (s.size : Int)).toNat s.size).size ≤ 9223372036854775807 := by rw [ByteArray.size_extract]; omega
    have hfin : p = (⟨xk, 0, (s.extract (min 0 (s.size : Int)).toNat s.size).extract 0 (min (yi + zi - 1) ((s.extract (min 0 (s.size : Int)).toNat s.size).size : Int)).toNat⟩, 0) := by
      rw [← HP.out]; unfold substrS; rw [if_neg (by omega), if_pos h2, if_neg h3]; rfl
    generalize s.extract (min 0 (s.size : Int)).toNat s.size = t at *
    have HF := Lib.hid hfin; clear hfin
    have hm0 : 0 ≤ min (yi + zi - 1) (t.size : Int) := by omega
    have hm1 : min (yi + zi - 1) (t.size : Int) ≤ (t.size : Int) := by omega
    refine wp_region_later_tail 11 (by kernel_rfl) (by kernel_rfl) (by kernel_rfl) ?_
    simp only [List.take_succ_cons, List.take_zero, List.drop_succ_cons, List.drop_zero]
    repeat (go_big_quiet_step (fail))
    refine wpQuiet_nil ?_
    rintro w1 ⟨u, rfl⟩
    have hb1 := laterW_below _ u
    generalize laterW _ u = w1 at *
    have q0 := cell_below hb1 r0
    have q1 := cell_below hb1 r1
    have q2 := cell_below hb1 r2
    have hz1 : w.heap.size < w1.heap.size := lt_of_cell q0
    have f1 : ∀ o, w1.frozen? ⟨w.heap.size, o, none⟩ = false := fun o => by rw [(bcell hb1).2 _ _ (lt_of_cell r0)]; simp [go_sem]
    have hB1 := later hB hb1
    clear r0 r1 r2 hB hb1 hm0 hm1
    go_wp2
    refine bodyPost_ret (ret_cells3 rfl rfl (by with_reducible exact stored3 q0 q1 q2) (Tryd.isAgg23 _) (Tryd.sizeOf23 _)) rfl ?_
    exact Rets.gv (v := ⟨xk, 0, _⟩) HF.out (((hB1.setCell (Nat.le_refl _) _).setCell (Nat.le_refl _) _).setCell (Nat.le_refl _) _)
  · have h1 : 0 ≤ zi := by assumption
    have h2 : ¬ yi < 1 := by omega
    have ht : (s.extract (min (yi - 1) (s.size : Int)).toNat s.size).size ≤ 9223372036854775807 := by rw [ByteArray.size_extract]; omega
    have hfin : p = (⟨xk, 0, (s.extract (min (yi - 1) (s.size : Int)).toNat s.size).extract 0 (min (zi) ((s.extract (min (yi - 1) (s.size : Int)).toNat s.size).size : Int)).toNat⟩, 0) := by
      rw [← HP.out]; unfold substrS; rw [if_neg (by omega), if_neg h2]; rfl
    generalize s.extract (min (yi - 1) (s.size : Int)).toNat s.size = t at *
    have HF := Lib.hid hfin; clear hfin
    have hm0 : 0 ≤ min (zi) (t.size : Int) := by omega
    have hm1 : min (zi) (t.size : Int) ≤ (t.size : Int) := by omega
    refine wp_region_later_tail 11 (by kernel_rfl) (by kernel_rfl) (by kernel_rfl) ?_
    simp only [List.take_succ_cons, List.take_zero, List.drop_succ_cons, List.drop_zero]
    repeat (go_big_quiet_step (fail))
    refine wpQuiet_nil ?_
    rintro w1 ⟨u, rfl⟩
    have hb1 := laterW_below _ u
    generalize laterW _ u = w1 at *
    have q0 := cell_below hb1 r0
    have q1 := cell_below hb1 r1
    have q2 := cell_below hb1 r2
    have hz1 : w.heap.size < w1.heap.size := lt_of_cell q0
    have f1 : ∀ o, w1.frozen? ⟨w.heap.size, o, none⟩ = false := fun o => by rw [(bcell hb1).2 _ _ (lt_of_cell r0)]; simp [go_sem]
    have hB1 := later hB hb1
    clear r0 r1 r2 hB hb1 hm0 hm1
    go_wp2
    refine bodyPost_ret (ret_cells3 rfl rfl (by with_reducible exact stored3 q0 q1 q2) (Tryd.isAgg23 _) (Tryd.sizeOf23 _)) rfl ?_
    exact Rets.gv (v := ⟨xk, 0, _⟩) HF.out (((hB1.setCell (Nat.le_refl _) _).setCell (Nat.le_refl _) _).setCell (Nat.le_refl _) _)
end Go.Proofs.YtddnkjeogidfcaaDoor
