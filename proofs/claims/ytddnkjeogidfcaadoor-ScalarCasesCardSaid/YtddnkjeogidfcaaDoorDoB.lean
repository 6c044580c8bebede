/-  What the table's functions do: instr, length, abs, sign. -/
import Derived.Test.YtddnkjeogidfcaaDoorDoA
import Derived.Test.YtddnkjeogidfcaaDoorNeg
namespace Go.Proofs.YtddnkjeogidfcaaDoor
open Go.RowKit Go.Shelf Go

def zeroGV : Obj := .cells #[.int .i64 0, .int .i64 0, .string ⟨#[]⟩] 23

def instrS (x y : GV) : GV × Int := (GV.num (Lib.index x.s.data.toList y.s.data.toList + 1), 0)
def lengthS (x : GV) : GV × Int := (GV.num x.s.size, 0)
def signS (x : GV) : GV × Int := (GV.num (if x.i < 0 then -1 else if x.i > 0 then 1 else 0), 0)
def absS (x : GV) : GV × Int := if x.i < 0 then arithS [45] (GV.num 0) x else (x, 0)

theorem index_le (s t : List UInt8) : Lib.index s t ≤ s.length := by
  by_cases h : 0 ≤ Lib.index s t
  · have := Lib.index_room s t h; omega
  · omega

set_option maxHeartbeats 1000000 in
theorem do_instr (x y : GV) (v : Value) (w : World) (hv : VS w v [x, y]) (hs : x.s.size < 4294967281) (hm : SomeMax w) :
    Calls Tryd.prog 55 #[v] w (Rets (.tuple #[(instrS x y).1.val, .int .i64 (instrS x y).2]) w) := by
  obtain ⟨b, o, c, rfl, hc⟩ := hv.row (by simp)
  obtain ⟨m, hm⟩ := hm
  obtain ⟨x0, x1, x2⟩ := hc 0 x rfl
  obtain ⟨y0, y1, y2⟩ := hc 1 y rfl
  rw [Nat.zero_mul, Nat.add_zero] at x0 x1 x2
  rw [Nat.one_mul] at y0 y1 y2
  have hlen : [x, y].length = 2 := rfl
  rw [hlen]
  clear hc hv hlen
  generalize hp : instrS x y = p
  have HP := Lib.hid hp; clear hp
  obtain ⟨xk, xi, s⟩ := x
  obtain ⟨yk, yi, t⟩ := y
  simp only at *
  have hix := fun W (h : W.cell? ⟨0, 0, none⟩ = some (.int .i64 m)) => Tryd.strings_Index s t m W hs h
  have hn := fun n W => scalar_num n W
  have l1 := Lib.index_ge s.data.toList t.data.toList
  have l2 := index_le s.data.toList t.data.toList
  have l3 : s.data.toList.length = s.size := rfl
  unfold instrS at HP
  simp only at HP
  generalize Lib.index s.data.toList t.data.toList = ix at *
  have l4 : ix < 4294967281 := by omega
  clear l2 l3
  unfold GV.val GV.num at hn
  simp only at hn
  have hzb : b < w.heap.size := lt_of_cell x0
  have hzb' : b < w.heap.size + 1 := by omega
  go_enter Tryd.func55, Tryd.ntmps55
  go_wp2_with fail
  have r0 : (w.alloc zeroGV).cell? ⟨w.heap.size, 0, none⟩ = some (.int .i64 0) := by simp [go_sem, zeroGV]
  have r1 : (w.alloc zeroGV).cell? ⟨w.heap.size, 1, none⟩ = some (.int .i64 0) := by simp [go_sem, zeroGV]
  have r2 : (w.alloc zeroGV).cell? ⟨w.heap.size, 2, none⟩ = some (.string ⟨#[]⟩) := by simp [go_sem, zeroGV]
  have hm2 := cell_alloc (o := zeroGV) hm
  have hB : Below w.heap.size w (w.alloc zeroGV) := (Below.refl _ _).alloc (Nat.le_refl _) _
  refine wp_region_later_tail 11 (by kernel_rfl) (by kernel_rfl) (by kernel_rfl) ?_
  simp only [List.take_succ_cons, List.take_zero, List.drop_succ_cons, List.drop_zero]
  repeat (go_big_quiet_step (first
    | exact Calls.quiet_later (hix _ (cell_below (laterW_below _ _) hm2)) (fun _ _ h => ⟨h.1, by rw [h.2]; exact Below.refl _ _⟩)
    | exact Calls.quiet_later (hn _ _) (fun _ _ h => h)))
  refine wpQuiet_nil ?_
  rintro w1 ⟨u, rfl⟩
  have hb1 := laterW_below _ u
  generalize laterW _ u = w1 at *
  have q0 := cell_below hb1 r0
  have q1 := cell_below hb1 r1
  have q2 := cell_below hb1 r2
  have hz1 : w.heap.size < w1.heap.size := lt_of_cell q0
  have f1 : ∀ o, w1.frozen? ⟨w.heap.size, o, none⟩ = false := fun o => by rw [(bcell hb1).2 _ _ (lt_of_cell r0)]; simp [go_sem, zeroGV]
  have hB1 := later hB hb1
  clear r0 r1 r2 hB hb1 hm2
  go_wp2
  refine bodyPost_ret (ret_cells3 rfl rfl (by with_reducible exact stored3 q0 q1 q2) (Tryd.isAgg23 _) (Tryd.sizeOf23 _)) rfl ?_
  exact Rets.gv (v := GV.num _) HP.out.symm (((hB1.setCell (Nat.le_refl _) _).setCell (Nat.le_refl _) _).setCell (Nat.le_refl _) _)

set_option maxHeartbeats 1000000 in
theorem do_length (x : GV) (v : Value) (w : World) (hv : VS w v [x]) :
    Calls Tryd.prog 49 #[v] w (Rets (.tuple #[(lengthS x).1.val, .int .i64 (lengthS x).2]) w) := by
  obtain ⟨b, o, c, rfl, hc⟩ := hv.row (by simp)
  obtain ⟨x0, x1, x2⟩ := hc 0 x rfl
  rw [Nat.zero_mul, Nat.add_zero] at x0 x1 x2
  have hlen : [x].length = 1 := rfl
  rw [hlen]
  clear hc hv hlen
  generalize hp : lengthS x = p
  have HP := Lib.hid hp; clear hp
  obtain ⟨xk, xi, s⟩ := x
  simp only at *
  have hn := fun n W => scalar_num n W
  unfold lengthS at HP
  simp only at HP
  unfold GV.val GV.num at hn
  simp only at hn
  have hzb : b < w.heap.size := lt_of_cell x0
  go_enter Tryd.func49, Tryd.ntmps49
  go_wp2_with fail
  refine (hn _ _).mono ?_
  rintro e w1 ⟨rfl, hb1⟩
  have q0 := cell_below hb1 (a := ⟨w.heap.size, 0, none⟩) (v := .int .i64 0) (by simp [go_sem])
  have q1 := cell_below hb1 (a := ⟨w.heap.size, 1, none⟩) (v := .int .i64 0) (by simp [go_sem])
  have q2 := cell_below hb1 (a := ⟨w.heap.size, 2, none⟩) (v := .string ⟨#[]⟩) (by simp [go_sem])
  have hz1 : w.heap.size < w1.heap.size := lt_of_cell q0
  have f1 : ∀ o, w1.frozen? ⟨w.heap.size, o, none⟩ = false := fun o => by rw [(bcell hb1).2 _ _ (by simp)]; simp [go_sem]
  have hB1 := later (w := w) (by go_grown) hb1
  clear hb1
  go_wp2
  refine bodyPost_ret (ret_cells3 rfl rfl (by with_reducible exact stored3 q0 q1 q2) (Tryd.isAgg23 _) (Tryd.sizeOf23 _)) rfl ?_
  exact Rets.gv (v := GV.num _) HP.out.symm (((hB1.setCell (Nat.le_refl _) _).setCell (Nat.le_refl _) _).setCell (Nat.le_refl _) _)

set_option maxHeartbeats 1000000 in
theorem cmp_Compare (a b : Int) (w : World) :
    Calls Tryd.prog 48 #[.int .i64 a, .int .i64 b] w fun e w' => e = .returned (.int .i64 (if a < b then -1 else if a > b then 1 else 0)) ∧ w' = w := by
  generalize hp : (if a < b then (-1 : Int) else if a > b then 1 else 0) = p
  have HP := Lib.hid hp; clear hp
  go_enter Tryd.func48, Tryd.ntmps48
  go_wp2
  · have h : a < b := by assumption
    go_returns
    exact ⟨by rw [← HP.out, if_pos h]; rfl, rfl⟩
  · have h : ¬ a < b := by omega
    have h2 : b < a := by assumption
    go_returns
    exact ⟨by rw [← HP.out, if_neg h, if_pos h2]; rfl, rfl⟩
  · have h : ¬ a < b := by omega
    have h2 : ¬ b < a := by omega
    go_returns
    exact ⟨by rw [← HP.out, if_neg h, if_neg h2]; rfl, rfl⟩

set_option maxHeartbeats 1000000 in
theorem do_sign (x : GV) (v : Value) (w : World) (hv : VS w v [x]) :
    Calls Tryd.prog 47 #[v] w (Rets (.tuple #[(signS x).1.val, .int .i64 (signS x).2]) w) := by
  obtain ⟨b, o, c, rfl, hc⟩ := hv.row (by simp)
  obtain ⟨x0, x1, x2⟩ := hc 0 x rfl
  rw [Nat.zero_mul, Nat.add_zero] at x0 x1 x2
  have hlen : [x].length = 1 := rfl
  rw [hlen]
  clear hc hv hlen
  generalize hp : signS x = p
  have HP := Lib.hid hp; clear hp
  obtain ⟨xk, xi, s⟩ := x
  simp only at *
  have hn := fun n W => scalar_num n W
  have hcm := fun W => cmp_Compare xi 0 W
  unfold signS at HP
  simp only at HP
  generalize (if xi < 0 then (-1 : Int) else if xi > 0 then 1 else 0) = cv at *
  unfold GV.val GV.num at hn
  simp only at hn
  have hzb : b < w.heap.size := lt_of_cell x0
  go_enter Tryd.func47, Tryd.ntmps47
  go_wp2_with fail
  refine (hcm _).mono ?_
  rintro e w0 ⟨rfl, rfl⟩
  go_wp2_with fail
  refine (hn _ _).mono ?_
  rintro e w1 ⟨rfl, hb1⟩
  have q0 := cell_below hb1 (a := ⟨w.heap.size, 0, none⟩) (v := .int .i64 0) (by simp [go_sem])
  have q1 := cell_below hb1 (a := ⟨w.heap.size, 1, none⟩) (v := .int .i64 0) (by simp [go_sem])
  have q2 := cell_below hb1 (a := ⟨w.heap.size, 2, none⟩) (v := .string ⟨#[]⟩) (by simp [go_sem])
  have hz1 : w.heap.size < w1.heap.size := lt_of_cell q0
  have f1 : ∀ o, w1.frozen? ⟨w.heap.size, o, none⟩ = false := fun o => by rw [(bcell hb1).2 _ _ (by simp)]; simp [go_sem]
  have hB1 := later (w := w) (by go_grown) hb1
  clear hb1
  go_wp2
  refine bodyPost_ret (ret_cells3 rfl rfl (by with_reducible exact stored3 q0 q1 q2) (Tryd.isAgg23 _) (Tryd.sizeOf23 _)) rfl ?_
  exact Rets.gv (v := GV.num _) HP.out.symm (((hB1.setCell (Nat.le_refl _) _).setCell (Nat.le_refl _) _).setCell (Nat.le_refl _) _)

set_option maxHeartbeats 1000000 in
theorem do_abs (x : GV) (v : Value) (w : World) (hv : VS w v [x]) (hx : I64 x.i) :
    Calls Tryd.prog 46 #[v] w (Rets (.tuple #[(absS x).1.val, .int .i64 (absS x).2]) w) := by
  obtain ⟨b, o, c, rfl, hc⟩ := hv.row (by simp)
  obtain ⟨x0, x1, x2⟩ := hc 0 x rfl
  rw [Nat.zero_mul, Nat.add_zero] at x0 x1 x2
  have hlen : [x].length = 1 := rfl
  rw [hlen]
  clear hc hv hlen
  generalize hp : absS x = p
  have HP := Lib.hid hp; clear hp
  have hn := fun W => scalar_Neg x W hx
  have hzb : b < w.heap.size := lt_of_cell x0
  clear hx
  by_cases h : x.i < 0
  · unfold absS at HP
    rw [if_pos h] at HP
    generalize arithS [45] (GV.num 0) x = q at *
    obtain ⟨r, er⟩ := q
    obtain ⟨xk, xi, s⟩ := x
    simp only at *
    unfold GV.val at hn
    simp only at hn
    go_enter Tryd.func46, Tryd.ntmps46
    go_wp2_with fail
    refine (hn _).mono ?_
    rintro e w1 ⟨rfl, hb1⟩
    have q0 := cell_below hb1 (a := ⟨w.heap.size, 0, none⟩) (v := .int .i64 0) (by simp [go_sem])
    have q1 := cell_below hb1 (a := ⟨w.heap.size, 1, none⟩) (v := .int .i64 0) (by simp [go_sem])
    have q2 := cell_below hb1 (a := ⟨w.heap.size, 2, none⟩) (v := .string ⟨#[]⟩) (by simp [go_sem])
    have hz1 : w.heap.size < w1.heap.size := lt_of_cell q0
    have f1 : ∀ o, w1.frozen? ⟨w.heap.size, o, none⟩ = false := fun o => by rw [(bcell hb1).2 _ _ (by simp)]; simp [go_sem]
    have hB1 := later (w := w) (by go_grown) hb1
    clear hb1
    go_wp2
    refine bodyPost_ret (ret_cells3 rfl rfl (by with_reducible exact stored3 q0 q1 q2) (Tryd.isAgg23 _) (Tryd.sizeOf23 _)) rfl ?_
    exact Rets.gv (v := r) HP.out.symm (((hB1.setCell (Nat.le_refl _) _).setCell (Nat.le_refl _) _).setCell (Nat.le_refl _) _)
  · unfold absS at HP
    rw [if_neg h] at HP
    obtain ⟨xk, xi, s⟩ := x
    simp only at *
    clear hn
    go_enter Tryd.func46, Tryd.ntmps46
    go_wp2
    refine bodyPost_ret (ret_cells3 (k := .int .i64 xk) (i := .int .i64 xi) (s := .string s) rfl rfl ⟨by simp [go_sem], by simp [go_sem], by simp [go_sem]⟩ (Tryd.isAgg23 _) (Tryd.sizeOf23 _)) rfl ?_
    exact Rets.gv (v := ⟨xk, xi, s⟩) HP.out.symm ((Below.refl _ _).alloc (Nat.le_refl _) _)
end Go.Proofs.YtddnkjeogidfcaaDoor
