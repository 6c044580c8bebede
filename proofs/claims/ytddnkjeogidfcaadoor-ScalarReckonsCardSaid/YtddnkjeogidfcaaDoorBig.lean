/-  The law's bound: Few of one row of one or two values; big; the reference's Check. -/
import Derived.Test.YtddnkjeogidfcaaDoorCheckNull
namespace Go.Proofs.YtddnkjeogidfcaaDoor
open Go.RowKit Go.Shelf Go

def few1 (x : GV) : Bool := decide ((2 : Int) + x.s.size ≤ 3000)
def few2 (x y : GV) : Bool := decide ((3 : Int) + x.s.size + y.s.size ≤ 3000)

set_option maxHeartbeats 2000000 in
theorem ref_Few1 (x : GV) (row : Value) (b c : Nat) (w : World) (hc : w.cell? ⟨b, 0, none⟩ = some row) (hv : VS w row [x]) (hs : x.s.size ≤ 281474976710656) :
    Calls Tryd.prog 21 #[.slice (some ⟨b, 0, none⟩) 1 c, .int .i64 3000] w (Rets (.bool (few1 x)) w) := by
  obtain ⟨A, d, hvv, hlen, hcell⟩ := hv
  obtain rfl : row = .slice A 1 d := hvv
  obtain ⟨p, o, rfl, c0, c1, c2⟩ := hcell 0 x rfl
  rw [Nat.zero_mul, Nat.add_zero] at c0 c1 c2
  unfold few1
  generalize hz : x.s.size = z at *
  clear hcell hlen
  go_enter Tryd.func21, Tryd.ntmps21
  go_wp2_with fail
  refine wp_loop_rounds 2 ?_
  rw [rounds_succ]
  go_wp2_with fail
  refine wp_loop_rounds 2 ?_
  rw [rounds_succ]
  go_wp2_with fail
  repeat any_goals (rw [rounds_succ]; go_wp2_with fail)
  all_goals go_returns
  all_goals (refine Rets.bool ?_ (by go_grown))
  all_goals go_light
  all_goals first | exact (decide_eq_true (by omega)).symm | exact (decide_eq_false (by omega)).symm

set_option maxHeartbeats 2000000 in
theorem ref_Few2 (x y : GV) (row : Value) (b c : Nat) (w : World) (hc : w.cell? ⟨b, 0, none⟩ = some row) (hv : VS w row [x, y]) (hs : x.s.size ≤ 281474976710656) (ht : y.s.size ≤ 281474976710656) :
    Calls Tryd.prog 21 #[.slice (some ⟨b, 0, none⟩) 1 c, .int .i64 3000] w (Rets (.bool (few2 x y)) w) := by
  obtain ⟨A, d, hvv, hlen, hcell⟩ := hv
  obtain rfl : row = .slice A 2 d := hvv
  obtain ⟨p, o, rfl, c0, c1, c2⟩ := hcell 0 x rfl
  obtain ⟨p', o', he, g0, g1, g2⟩ := hcell 1 y rfl
  simp only [Option.some.injEq, Addr.mk.injEq, and_true] at he
  obtain ⟨rfl, rfl⟩ := he
  rw [Nat.zero_mul, Nat.add_zero] at c0 c1 c2
  rw [Nat.one_mul] at g0 g1 g2
  have hp : p < w.heap.size := lt_of_cell c0
  have hbb : b < w.heap.size := lt_of_cell hc
  unfold few2
  generalize hz : x.s.size = z at *
  generalize hz2 : y.s.size = z2 at *
  clear hcell hlen
  by_cases h1 : (3000 : Int) < 1 + (1 + (z : Int))
  · go_enter Tryd.func21, Tryd.ntmps21
    go_wp2_with fail
    refine wp_loop_rounds 2 ?_
    rw [rounds_succ]
    go_wp2_with fail
    refine wp_loop_rounds 3 ?_
    rw [rounds_succ]
    go_wp2_with fail
    go_returns
    exact Rets.bool (decide_eq_false (by omega)).symm (by go_grown)
  by_cases h2 : (3000 : Int) < 1 + (1 + (z : Int)) + (1 + (z2 : Int))
  · go_enter Tryd.func21, Tryd.ntmps21
    go_wp2_with fail
    refine wp_loop_rounds 2 ?_
    rw [rounds_succ]
    go_wp2_with fail
    refine wp_loop_rounds 3 ?_
    rw [rounds_succ]
    go_wp2_with fail
    rw [rounds_succ]
    go_wp2_with fail
    go_returns
    exact Rets.bool (decide_eq_false (by omega)).symm (by go_grown)
  · go_enter Tryd.func21, Tryd.ntmps21
    go_wp2_with fail
    refine wp_loop_rounds 2 ?_
    rw [rounds_succ]
    go_wp2_with fail
    refine wp_loop_rounds 3 ?_
    rw [rounds_succ]
    go_wp2_with fail
    rw [rounds_succ]
    go_wp2_with fail
    rw [rounds_succ]
    go_wp2_with fail
    rw [rounds_succ]
    go_wp2_with fail
    go_returns
    exact Rets.bool (decide_eq_true (by omega)).symm (by go_grown)

set_option maxHeartbeats 1000000 in
theorem law_big1 (x : GV) (row : Value) (w : World) (hv : VS w row [x]) (hs : x.s.size ≤ 281474976710656) :
    Calls Tryd.prog 9 #[row] w (Rets (.bool (!few1 x)) w) := by
  have HV := Lib.hid hv
  obtain ⟨A, d, hvv, hlen, hcell⟩ := hv
  obtain rfl : row = .slice A 1 d := hvv
  clear hcell hlen
  go_enter Tryd.func9, Tryd.ntmps9
  go_wp2_with fail
  refine (ref_Few1 x _ _ _ _ (by simp [go_sem]) (HV.out.below (by go_grown)) hs).mono ?_
  rintro e w1 ⟨rfl, hb1⟩
  have B1 := later (w := w) (by go_grown) hb1
  go_wp2
  go_returns
  exact Rets.bool rfl B1

set_option maxHeartbeats 1000000 in
theorem law_big2 (x y : GV) (row : Value) (w : World) (hv : VS w row [x, y]) (hs : x.s.size ≤ 281474976710656) (ht : y.s.size ≤ 281474976710656) :
    Calls Tryd.prog 9 #[row] w (Rets (.bool (!few2 x y)) w) := by
  have HV := Lib.hid hv
  obtain ⟨A, d, hvv, hlen, hcell⟩ := hv
  obtain rfl : row = .slice A 2 d := hvv
  clear hcell hlen
  go_enter Tryd.func9, Tryd.ntmps9
  go_wp2_with fail
  refine (ref_Few2 x y _ _ _ _ (by simp [go_sem]) (HV.out.below (by go_grown)) hs ht).mono ?_
  rintro e w1 ⟨rfl, hb1⟩
  have B1 := later (w := w) (by go_grown) hb1
  go_wp2
  go_returns
  exact Rets.bool rfl B1

set_option maxHeartbeats 2000000 in
theorem ref_Check (v : GV) (w : World) :
    Calls Tryd.prog 19 #[v.val] w (Rets (.int .i64 (okNo v.ok)) w) := by
  obtain ⟨k, i, s⟩ := v
  show Calls _ _ #[.agg #[.int .i64 k, .int .i64 i, .string s]] _ _
  go_enter Tryd.func19, Tryd.ntmps19
  go_wp2
  all_goals go_returns
  all_goals (refine Rets.int ?_ (by go_grown))
  all_goals go_light
  all_goals (unfold okNo GV.ok; simp_all <;> omega)
end Go.Proofs.YtddnkjeogidfcaaDoor
