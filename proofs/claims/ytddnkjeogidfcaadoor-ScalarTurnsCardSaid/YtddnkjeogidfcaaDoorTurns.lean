/-  ScalarTurns: the walk. -/
import Derived.Test.YtddnkjeogidfcaaDoorLive
import Derived.Test.YtddnkjeogidfcaaDoorTurnsP
namespace Go.Proofs.YtddnkjeogidfcaaDoor
open Go.RowKit Go.Shelf Go

theorem contract_arith (c : UInt8) (x y r : GV) (e : Int) (h : arithS [c] x y = (r, e)) (hx : I64 x.i) (hy : I64 y.i) (W : World) :
    Calls Tryd.prog 10 #[.string ⟨#[c]⟩, .agg #[.int .i64 x.k, .int .i64 x.i, .string x.s], .agg #[.int .i64 y.k, .int .i64 y.i, .string y.s]] W (Rets (.tuple #[.agg #[.int .i64 r.k, .int .i64 r.i, .string r.s], .int .i64 e]) W) := by
  have := scalar_Arith ⟨#[c]⟩ x y W hx hy
  rw [show (⟨#[c]⟩ : ByteArray).toList = [c] from by rw [Go.ByteArray.toList_eq], h] at this
  exact this

set_option maxRecDepth 100000 in
set_option maxHeartbeats 4000000 in
theorem turns_s1_q0 (a b : Int) (w : World) (ha : I64 a) (hb : I64 b) (hm : SomeMax w) (hs : fits (a + b) = true) (h0 : b = 0) : Calls Tryd.prog 4 #[.int .i64 a, .int .i64 b] w (Rets (.bool true) w) := by
  have cL := live_true w hm
  have cNa := fun W => ref_Int1 a W
  have cNb := fun W => ref_Int1 b W
  obtain ⟨⟨rm, em⟩, hmm⟩ : ∃ r, arithS [42] (GV.num a) (GV.num b) = r := ⟨_, rfl⟩
  have hp : arithS [43] (GV.num a) (GV.num b) = (GV.num (a + b), 0) := by rw [arith_add, hs]; rfl
  have hs2 : arithS [45] (GV.num (a + b)) (GV.num b) = (GV.num a, 0) := by rw [arith_sub, Int.add_sub_cancel, fits_I64.2 ha]; rfl
  have cS := contract_arith 45 _ _ _ _ hs2 (fits_I64.1 hs) hb
  have hq : arithS [47] (GV.num a) (GV.num b) = (GV.none, 31) := by rw [h0]; exact arith_quo0 a
  have hr : arithS [37] (GV.num a) (GV.num b) = (GV.none, 31) := by rw [h0]; exact arith_rem0 a
  have hb0 : (b == 0) = true := beq_iff_eq.2 h0
  have cP1 := contract_arith 43 _ _ _ _ hp ha hb
  have cP2 := contract_arith 43 _ _ _ _ ((arith_add_comm b a).trans hp) hb ha
  have cM1 := contract_arith 42 _ _ _ _ hmm ha hb
  have cM2 := contract_arith 42 _ _ _ _ ((arith_mul_comm b a).trans hmm) hb ha
  have cQ := contract_arith 47 _ _ _ _ hq ha hb
  have cR := contract_arith 37 _ _ _ _ hr ha hb
  simp only [GV.val, GV.num, GV.none] at cNa cNb cP1 cP2 cM1 cM2 cQ cR cS
  clear hmm hp hq hr ha hb hm
  clear h0 hs
  go_enter Tryd.func4, Tryd.ntmps4
  go_wp2_with fail
  refine (cL).mono ?_
  rintro e w1 ⟨rfl, hb1⟩
  have B1 := later (Below.refl _ _) hb1
  go_wp2_with fail
  refine (cNa _).mono ?_
  rintro e w2 ⟨rfl, hb2⟩
  have B2 := later B1 hb2
  go_wp2_with fail
  refine (cNb _).mono ?_
  rintro e w3 ⟨rfl, hb3⟩
  have x0_3 := cell_below hb3 (a := ⟨w2.heap.size, 0, none⟩) (v := .int .i64 2) (by simp [go_sem])
  have x1_3 := cell_below hb3 (a := ⟨w2.heap.size, 1, none⟩) (v := .int .i64 a) (by simp [go_sem])
  have x2_3 := cell_below hb3 (a := ⟨w2.heap.size, 2, none⟩) (v := .string ⟨#[]⟩) (by simp [go_sem])
  have B3 := later (B2.alloc B2.size _) hb3
  have hz_x0_3 := lt_of_cell x0_3
  go_wp2_with fail
  refine wp_loop_rounds 3 ?_
  rw [rounds_succ]
  go_wp2_with fail
  refine (cP1 _).mono ?_
  rintro e w4 ⟨rfl, hb4⟩
  have x0_4 := cell_below hb4 (cell_alloc (cell_alloc (x0_3)))
  have x1_4 := cell_below hb4 (cell_alloc (cell_alloc (x1_3)))
  have x2_4 := cell_below hb4 (cell_alloc (cell_alloc (x2_3)))
  have y0_4 := cell_below hb4 (a := ⟨w3.heap.size, 0, none⟩) (v := .int .i64 2) (by simp [go_sem])
  have y1_4 := cell_below hb4 (a := ⟨w3.heap.size, 1, none⟩) (v := .int .i64 b) (by simp [go_sem])
  have y2_4 := cell_below hb4 (a := ⟨w3.heap.size, 2, none⟩) (v := .string ⟨#[]⟩) (by simp [go_sem])
  have op0_4 := cell_below hb4 (a := ⟨w3.heap.size + 1, 0, none⟩) (v := .string ⟨#[43]⟩) (by simp [go_sem])
  have op1_4 := cell_below hb4 (a := ⟨w3.heap.size + 1, 1, none⟩) (v := .string ⟨#[42]⟩) (by simp [go_sem])
  have B4 := later ((B3.alloc B3.size _).alloc (B3.alloc B3.size _).size _) hb4
  have hz_x0_4 := lt_of_cell x0_4
  have hz_y0_4 := lt_of_cell y0_4
  have hz_op0_4 := lt_of_cell op0_4
  clear x0_3 x1_3 x2_3 hz_x0_3
  go_wp2_with fail
  refine (cP2 _).mono ?_
  rintro e w5 ⟨rfl, hb5⟩
  have x0_5 := cell_below hb5 (cell_alloc (x0_4))
  have x1_5 := cell_below hb5 (cell_alloc (x1_4))
  have x2_5 := cell_below hb5 (cell_alloc (x2_4))
  have y0_5 := cell_below hb5 (cell_alloc (y0_4))
  have y1_5 := cell_below hb5 (cell_alloc (y1_4))
  have y2_5 := cell_below hb5 (cell_alloc (y2_4))
  have op0_5 := cell_below hb5 (cell_alloc (op0_4))
  have op1_5 := cell_below hb5 (cell_alloc (op1_4))
  have p0_5 := cell_below hb5 (a := ⟨w4.heap.size, 0, none⟩) (v := .int .i64 2) (by simp [go_sem])
  have p1_5 := cell_below hb5 (a := ⟨w4.heap.size, 1, none⟩) (v := .int .i64 (a + b)) (by simp [go_sem])
  have p2_5 := cell_below hb5 (a := ⟨w4.heap.size, 2, none⟩) (v := .string ⟨#[]⟩) (by simp [go_sem])
  have B5 := later (B4.alloc B4.size _) hb5
  have hz_x0_5 := lt_of_cell x0_5
  have hz_y0_5 := lt_of_cell y0_5
  have hz_op0_5 := lt_of_cell op0_5
  have hz_p0_5 := lt_of_cell p0_5
  clear x0_4 x1_4 x2_4 y0_4 y1_4 y2_4 op0_4 op1_4 hz_x0_4 hz_y0_4 hz_op0_4
  go_wp2_with fail
  rw [rounds_succ]
  go_wp2_with fail
  refine (cM1 _).mono ?_
  rintro e w6 ⟨rfl, hb6⟩
  have x0_6 := cell_below hb6 (cell_alloc (x0_5))
  have x1_6 := cell_below hb6 (cell_alloc (x1_5))
  have x2_6 := cell_below hb6 (cell_alloc (x2_5))
  have y0_6 := cell_below hb6 (cell_alloc (y0_5))
  have y1_6 := cell_below hb6 (cell_alloc (y1_5))
  have y2_6 := cell_below hb6 (cell_alloc (y2_5))
  have op0_6 := cell_below hb6 (cell_alloc (op0_5))
  have op1_6 := cell_below hb6 (cell_alloc (op1_5))
  have p0_6 := cell_below hb6 (cell_alloc (p0_5))
  have p1_6 := cell_below hb6 (cell_alloc (p1_5))
  have p2_6 := cell_below hb6 (cell_alloc (p2_5))
  have q0_6 := cell_below hb6 (a := ⟨w5.heap.size, 0, none⟩) (v := .int .i64 2) (by simp [go_sem])
  have q1_6 := cell_below hb6 (a := ⟨w5.heap.size, 1, none⟩) (v := .int .i64 (a + b)) (by simp [go_sem])
  have q2_6 := cell_below hb6 (a := ⟨w5.heap.size, 2, none⟩) (v := .string ⟨#[]⟩) (by simp [go_sem])
  have B6 := later (B5.alloc B5.size _) hb6
  have hz_x0_6 := lt_of_cell x0_6
  have hz_y0_6 := lt_of_cell y0_6
  have hz_op0_6 := lt_of_cell op0_6
  have hz_p0_6 := lt_of_cell p0_6
  have hz_q0_6 := lt_of_cell q0_6
  clear x0_5 x1_5 x2_5 y0_5 y1_5 y2_5 op0_5 op1_5 p0_5 p1_5 p2_5 hz_x0_5 hz_y0_5 hz_op0_5 hz_p0_5
  go_wp2_with fail
  refine (cM2 _).mono ?_
  rintro e w7 ⟨rfl, hb7⟩
  have x0_7 := cell_below hb7 (cell_alloc (x0_6))
  have x1_7 := cell_below hb7 (cell_alloc (x1_6))
  have x2_7 := cell_below hb7 (cell_alloc (x2_6))
  have y0_7 := cell_below hb7 (cell_alloc (y0_6))
  have y1_7 := cell_below hb7 (cell_alloc (y1_6))
  have y2_7 := cell_below hb7 (cell_alloc (y2_6))
  have op0_7 := cell_below hb7 (cell_alloc (op0_6))
  have op1_7 := cell_below hb7 (cell_alloc (op1_6))
  have p0_7 := cell_below hb7 (cell_alloc (p0_6))
  have p1_7 := cell_below hb7 (cell_alloc (p1_6))
  have p2_7 := cell_below hb7 (cell_alloc (p2_6))
  have q0_7 := cell_below hb7 (cell_alloc (q0_6))
  have q1_7 := cell_below hb7 (cell_alloc (q1_6))
  have q2_7 := cell_below hb7 (cell_alloc (q2_6))
  have p20_7 := cell_below hb7 (a := ⟨w6.heap.size, 0, none⟩) (v := .int .i64 rm.k) (by simp [go_sem])
  have p21_7 := cell_below hb7 (a := ⟨w6.heap.size, 1, none⟩) (v := .int .i64 rm.i) (by simp [go_sem])
  have p22_7 := cell_below hb7 (a := ⟨w6.heap.size, 2, none⟩) (v := .string rm.s) (by simp [go_sem])
  have B7 := later (B6.alloc B6.size _) hb7
  have hz_x0_7 := lt_of_cell x0_7
  have hz_y0_7 := lt_of_cell y0_7
  have hz_op0_7 := lt_of_cell op0_7
  have hz_p0_7 := lt_of_cell p0_7
  have hz_q0_7 := lt_of_cell q0_7
  have hz_p20_7 := lt_of_cell p20_7
  clear x0_6 x1_6 x2_6 y0_6 y1_6 y2_6 op0_6 op1_6 p0_6 p1_6 p2_6 q0_6 q1_6 q2_6 hz_x0_6 hz_y0_6 hz_op0_6 hz_p0_6 hz_q0_6
  go_wp2_with fail
  rw [rounds_succ]
  go_wp2_with fail
  refine (cP1 _).mono ?_
  rintro e w8 ⟨rfl, hb8⟩
  have x0_8 := cell_below hb8 (cell_alloc (x0_7))
  have x1_8 := cell_below hb8 (cell_alloc (x1_7))
  have x2_8 := cell_below hb8 (cell_alloc (x2_7))
  have y0_8 := cell_below hb8 (cell_alloc (y0_7))
  have y1_8 := cell_below hb8 (cell_alloc (y1_7))
  have y2_8 := cell_below hb8 (cell_alloc (y2_7))
  have op0_8 := cell_below hb8 (cell_alloc (op0_7))
  have op1_8 := cell_below hb8 (cell_alloc (op1_7))
  have p0_8 := cell_below hb8 (cell_alloc (p0_7))
  have p1_8 := cell_below hb8 (cell_alloc (p1_7))
  have p2_8 := cell_below hb8 (cell_alloc (p2_7))
  have q0_8 := cell_below hb8 (cell_alloc (q0_7))
  have q1_8 := cell_below hb8 (cell_alloc (q1_7))
  have q2_8 := cell_below hb8 (cell_alloc (q2_7))
  have p20_8 := cell_below hb8 (cell_alloc (p20_7))
  have p21_8 := cell_below hb8 (cell_alloc (p21_7))
  have p22_8 := cell_below hb8 (cell_alloc (p22_7))
  have q20_8 := cell_below hb8 (a := ⟨w7.heap.size, 0, none⟩) (v := .int .i64 rm.k) (by simp [go_sem])
  have q21_8 := cell_below hb8 (a := ⟨w7.heap.size, 1, none⟩) (v := .int .i64 rm.i) (by simp [go_sem])
  have q22_8 := cell_below hb8 (a := ⟨w7.heap.size, 2, none⟩) (v := .string rm.s) (by simp [go_sem])
  have B8 := later (B7.alloc B7.size _) hb8
  have hz_x0_8 := lt_of_cell x0_8
  have hz_y0_8 := lt_of_cell y0_8
  have hz_op0_8 := lt_of_cell op0_8
  have hz_p0_8 := lt_of_cell p0_8
  have hz_q0_8 := lt_of_cell q0_8
  have hz_p20_8 := lt_of_cell p20_8
  have hz_q20_8 := lt_of_cell q20_8
  clear x0_7 x1_7 x2_7 y0_7 y1_7 y2_7 op0_7 op1_7 p0_7 p1_7 p2_7 q0_7 q1_7 q2_7 p20_7 p21_7 p22_7 hz_x0_7 hz_y0_7 hz_op0_7 hz_p0_7 hz_q0_7 hz_p20_7
  go_wp2_with fail
  refine (cS _).mono ?_
  rintro e w9 ⟨rfl, hb9⟩
  have x0_9 := cell_below hb9 (cell_alloc (x0_8))
  have x1_9 := cell_below hb9 (cell_alloc (x1_8))
  have x2_9 := cell_below hb9 (cell_alloc (x2_8))
  have y0_9 := cell_below hb9 (cell_alloc (y0_8))
  have y1_9 := cell_below hb9 (cell_alloc (y1_8))
  have y2_9 := cell_below hb9 (cell_alloc (y2_8))
  have op0_9 := cell_below hb9 (cell_alloc (op0_8))
  have op1_9 := cell_below hb9 (cell_alloc (op1_8))
  have p0_9 := cell_below hb9 (cell_alloc (p0_8))
  have p1_9 := cell_below hb9 (cell_alloc (p1_8))
  have p2_9 := cell_below hb9 (cell_alloc (p2_8))
  have q0_9 := cell_below hb9 (cell_alloc (q0_8))
  have q1_9 := cell_below hb9 (cell_alloc (q1_8))
  have q2_9 := cell_below hb9 (cell_alloc (q2_8))
  have p20_9 := cell_below hb9 (cell_alloc (p20_8))
  have p21_9 := cell_below hb9 (cell_alloc (p21_8))
  have p22_9 := cell_below hb9 (cell_alloc (p22_8))
  have q20_9 := cell_below hb9 (cell_alloc (q20_8))
  have q21_9 := cell_below hb9 (cell_alloc (q21_8))
  have q22_9 := cell_below hb9 (cell_alloc (q22_8))
  have s0_9 := cell_below hb9 (a := ⟨w8.heap.size, 0, none⟩) (v := .int .i64 2) (by simp [go_sem])
  have s1_9 := cell_below hb9 (a := ⟨w8.heap.size, 1, none⟩) (v := .int .i64 (a + b)) (by simp [go_sem])
  have s2_9 := cell_below hb9 (a := ⟨w8.heap.size, 2, none⟩) (v := .string ⟨#[]⟩) (by simp [go_sem])
  have B9 := later (B8.alloc B8.size _) hb9
  have hz_x0_9 := lt_of_cell x0_9
  have hz_y0_9 := lt_of_cell y0_9
  have hz_op0_9 := lt_of_cell op0_9
  have hz_p0_9 := lt_of_cell p0_9
  have hz_q0_9 := lt_of_cell q0_9
  have hz_p20_9 := lt_of_cell p20_9
  have hz_q20_9 := lt_of_cell q20_9
  have hz_s0_9 := lt_of_cell s0_9
  clear x0_8 x1_8 x2_8 y0_8 y1_8 y2_8 op0_8 op1_8 p0_8 p1_8 p2_8 q0_8 q1_8 q2_8 p20_8 p21_8 p22_8 q20_8 q21_8 q22_8 hz_x0_8 hz_y0_8 hz_op0_8 hz_p0_8 hz_q0_8 hz_p20_8 hz_q20_8
  go_wp2_with fail
  refine (cQ _).mono ?_
  rintro e w10 ⟨rfl, hb10⟩
  have x0_10 := cell_below hb10 (cell_alloc (x0_9))
  have x1_10 := cell_below hb10 (cell_alloc (x1_9))
  have x2_10 := cell_below hb10 (cell_alloc (x2_9))
  have y0_10 := cell_below hb10 (cell_alloc (y0_9))
  have y1_10 := cell_below hb10 (cell_alloc (y1_9))
  have y2_10 := cell_below hb10 (cell_alloc (y2_9))
  have op0_10 := cell_below hb10 (cell_alloc (op0_9))
  have op1_10 := cell_below hb10 (cell_alloc (op1_9))
  have p0_10 := cell_below hb10 (cell_alloc (p0_9))
  have p1_10 := cell_below hb10 (cell_alloc (p1_9))
  have p2_10 := cell_below hb10 (cell_alloc (p2_9))
  have q0_10 := cell_below hb10 (cell_alloc (q0_9))
  have q1_10 := cell_below hb10 (cell_alloc (q1_9))
  have q2_10 := cell_below hb10 (cell_alloc (q2_9))
  have p20_10 := cell_below hb10 (cell_alloc (p20_9))
  have p21_10 := cell_below hb10 (cell_alloc (p21_9))
  have p22_10 := cell_below hb10 (cell_alloc (p22_9))
  have q20_10 := cell_below hb10 (cell_alloc (q20_9))
  have q21_10 := cell_below hb10 (cell_alloc (q21_9))
  have q22_10 := cell_below hb10 (cell_alloc (q22_9))
  have s0_10 := cell_below hb10 (cell_alloc (s0_9))
  have s1_10 := cell_below hb10 (cell_alloc (s1_9))
  have s2_10 := cell_below hb10 (cell_alloc (s2_9))
  have back0_10 := cell_below hb10 (a := ⟨w9.heap.size, 0, none⟩) (v := .int .i64 2) (by simp [go_sem])
  have back1_10 := cell_below hb10 (a := ⟨w9.heap.size, 1, none⟩) (v := .int .i64 a) (by simp [go_sem])
  have back2_10 := cell_below hb10 (a := ⟨w9.heap.size, 2, none⟩) (v := .string ⟨#[]⟩) (by simp [go_sem])
  have B10 := later (B9.alloc B9.size _) hb10
  have hz_x0_10 := lt_of_cell x0_10
  have hz_y0_10 := lt_of_cell y0_10
  have hz_op0_10 := lt_of_cell op0_10
  have hz_p0_10 := lt_of_cell p0_10
  have hz_q0_10 := lt_of_cell q0_10
  have hz_p20_10 := lt_of_cell p20_10
  have hz_q20_10 := lt_of_cell q20_10
  have hz_s0_10 := lt_of_cell s0_10
  have hz_back0_10 := lt_of_cell back0_10
  clear x0_9 x1_9 x2_9 y0_9 y1_9 y2_9 op0_9 op1_9 p0_9 p1_9 p2_9 q0_9 q1_9 q2_9 p20_9 p21_9 p22_9 q20_9 q21_9 q22_9 s0_9 s1_9 s2_9 hz_x0_9 hz_y0_9 hz_op0_9 hz_p0_9 hz_q0_9 hz_p20_9 hz_q20_9 hz_s0_9
  go_wp2_with fail
  refine (cR _).mono ?_
  rintro e w11 ⟨rfl, hb11⟩
  have x0_11 := cell_below hb11 (cell_alloc (x0_10))
  have x1_11 := cell_below hb11 (cell_alloc (x1_10))
  have x2_11 := cell_below hb11 (cell_alloc (x2_10))
  have y0_11 := cell_below hb11 (cell_alloc (y0_10))
  have y1_11 := cell_below hb11 (cell_alloc (y1_10))
  have y2_11 := cell_below hb11 (cell_alloc (y2_10))
  have op0_11 := cell_below hb11 (cell_alloc (op0_10))
  have op1_11 := cell_below hb11 (cell_alloc (op1_10))
  have p0_11 := cell_below hb11 (cell_alloc (p0_10))
  have p1_11 := cell_below hb11 (cell_alloc (p1_10))
  have p2_11 := cell_below hb11 (cell_alloc (p2_10))
  have q0_11 := cell_below hb11 (cell_alloc (q0_10))
  have q1_11 := cell_below hb11 (cell_alloc (q1_10))
  have q2_11 := cell_below hb11 (cell_alloc (q2_10))
  have p20_11 := cell_below hb11 (cell_alloc (p20_10))
  have p21_11 := cell_below hb11 (cell_alloc (p21_10))
  have p22_11 := cell_below hb11 (cell_alloc (p22_10))
  have q20_11 := cell_below hb11 (cell_alloc (q20_10))
  have q21_11 := cell_below hb11 (cell_alloc (q21_10))
  have q22_11 := cell_below hb11 (cell_alloc (q22_10))
  have s0_11 := cell_below hb11 (cell_alloc (s0_10))
  have s1_11 := cell_below hb11 (cell_alloc (s1_10))
  have s2_11 := cell_below hb11 (cell_alloc (s2_10))
  have back0_11 := cell_below hb11 (cell_alloc (back0_10))
  have back1_11 := cell_below hb11 (cell_alloc (back1_10))
  have back2_11 := cell_below hb11 (cell_alloc (back2_10))
  have qu0_11 := cell_below hb11 (a := ⟨w10.heap.size, 0, none⟩) (v := .int .i64 0) (by simp [go_sem])
  have qu1_11 := cell_below hb11 (a := ⟨w10.heap.size, 1, none⟩) (v := .int .i64 0) (by simp [go_sem])
  have qu2_11 := cell_below hb11 (a := ⟨w10.heap.size, 2, none⟩) (v := .string ⟨#[]⟩) (by simp [go_sem])
  have B11 := later (B10.alloc B10.size _) hb11
  have hz_x0_11 := lt_of_cell x0_11
  have hz_y0_11 := lt_of_cell y0_11
  have hz_op0_11 := lt_of_cell op0_11
  have hz_p0_11 := lt_of_cell p0_11
  have hz_q0_11 := lt_of_cell q0_11
  have hz_p20_11 := lt_of_cell p20_11
  have hz_q20_11 := lt_of_cell q20_11
  have hz_s0_11 := lt_of_cell s0_11
  have hz_back0_11 := lt_of_cell back0_11
  have hz_qu0_11 := lt_of_cell qu0_11
  clear x0_10 x1_10 x2_10 y0_10 y1_10 y2_10 op0_10 op1_10 p0_10 p1_10 p2_10 q0_10 q1_10 q2_10 p20_10 p21_10 p22_10 q20_10 q21_10 q22_10 s0_10 s1_10 s2_10 back0_10 back1_10 back2_10 hz_x0_10 hz_y0_10 hz_op0_10 hz_p0_10 hz_q0_10 hz_p20_10 hz_q20_10 hz_s0_10 hz_back0_10
  go_wp2
  go_returns
  exact Rets.bool rfl (B11.alloc B11.size _)

set_option maxRecDepth 100000 in
set_option maxHeartbeats 4000000 in
theorem turns_s1_q1 (a b : Int) (w : World) (ha : I64 a) (hb : I64 b) (hm : SomeMax w) (hs : fits (a + b) = true) (h0 : b ≠ 0) (hf : fits (a.tdiv b) = false) : Calls Tryd.prog 4 #[.int .i64 a, .int .i64 b] w (Rets (.bool true) w) := by
  have cL := live_true w hm
  have cNa := fun W => ref_Int1 a W
  have cNb := fun W => ref_Int1 b W
  obtain ⟨⟨rm, em⟩, hmm⟩ : ∃ r, arithS [42] (GV.num a) (GV.num b) = r := ⟨_, rfl⟩
  have hp : arithS [43] (GV.num a) (GV.num b) = (GV.num (a + b), 0) := by rw [arith_add, hs]; rfl
  have hs2 : arithS [45] (GV.num (a + b)) (GV.num b) = (GV.num a, 0) := by rw [arith_sub, Int.add_sub_cancel, fits_I64.2 ha]; rfl
  have cS := contract_arith 45 _ _ _ _ hs2 (fits_I64.1 hs) hb
  have hb1 := quo_least ha h0 hf
  have hq : arithS [47] (GV.num a) (GV.num b) = (GV.none, 30) := by rw [arith_quo a b h0, hf]; rfl
  have hr := arith_rem a b h0
  have cP1 := contract_arith 43 _ _ _ _ hp ha hb
  have cP2 := contract_arith 43 _ _ _ _ ((arith_add_comm b a).trans hp) hb ha
  have cM1 := contract_arith 42 _ _ _ _ hmm ha hb
  have cM2 := contract_arith 42 _ _ _ _ ((arith_mul_comm b a).trans hmm) hb ha
  have cQ := contract_arith 47 _ _ _ _ hq ha hb
  have cR := contract_arith 37 _ _ _ _ hr ha hb
  simp only [GV.val, GV.num, GV.none] at cNa cNb cP1 cP2 cM1 cM2 cQ cR cS
  clear hmm hp hq hr ha hb hm
  have hb0 : (b == 0) = false := beq_eq_false_iff_ne.2 h0
  have hbm : (b == -1) = true := beq_iff_eq.2 hb1
  generalize a.tmod b = rmd at *
  clear h0 hs hf hb1
  go_enter Tryd.func4, Tryd.ntmps4
  go_wp2_with fail
  refine (cL).mono ?_
  rintro e w1 ⟨rfl, hb1⟩
  have B1 := later (Below.refl _ _) hb1
  go_wp2_with fail
  refine (cNa _).mono ?_
  rintro e w2 ⟨rfl, hb2⟩
  have B2 := later B1 hb2
  go_wp2_with fail
  refine (cNb _).mono ?_
  rintro e w3 ⟨rfl, hb3⟩
  have x0_3 := cell_below hb3 (a := ⟨w2.heap.size, 0, none⟩) (v := .int .i64 2) (by simp [go_sem])
  have x1_3 := cell_below hb3 (a := ⟨w2.heap.size, 1, none⟩) (v := .int .i64 a) (by simp [go_sem])
  have x2_3 := cell_below hb3 (a := ⟨w2.heap.size, 2, none⟩) (v := .string ⟨#[]⟩) (by simp [go_sem])
  have B3 := later (B2.alloc B2.size _) hb3
  have hz_x0_3 := lt_of_cell x0_3
  go_wp2_with fail
  refine wp_loop_rounds 3 ?_
  rw [rounds_succ]
  go_wp2_with fail
  refine (cP1 _).mono ?_
  rintro e w4 ⟨rfl, hb4⟩
  have x0_4 := cell_below hb4 (cell_alloc (cell_alloc (x0_3)))
  have x1_4 := cell_below hb4 (cell_alloc (cell_alloc (x1_3)))
  have x2_4 := cell_below hb4 (cell_alloc (cell_alloc (x2_3)))
  have y0_4 := cell_below hb4 (a := ⟨w3.heap.size, 0, none⟩) (v := .int .i64 2) (by simp [go_sem])
  have y1_4 := cell_below hb4 (a := ⟨w3.heap.size, 1, none⟩) (v := .int .i64 b) (by simp [go_sem])
  have y2_4 := cell_below hb4 (a := ⟨w3.heap.size, 2, none⟩) (v := .string ⟨#[]⟩) (by simp [go_sem])
  have op0_4 := cell_below hb4 (a := ⟨w3.heap.size + 1, 0, none⟩) (v := .string ⟨#[43]⟩) (by simp [go_sem])
  have op1_4 := cell_below hb4 (a := ⟨w3.heap.size + 1, 1, none⟩) (v := .string ⟨#[42]⟩) (by simp [go_sem])
  have B4 := later ((B3.alloc B3.size _).alloc (B3.alloc B3.size _).size _) hb4
  have hz_x0_4 := lt_of_cell x0_4
  have hz_y0_4 := lt_of_cell y0_4
  have hz_op0_4 := lt_of_cell op0_4
  clear x0_3 x1_3 x2_3 hz_x0_3
  go_wp2_with fail
  refine (cP2 _).mono ?_
  rintro e w5 ⟨rfl, hb5⟩
  have x0_5 := cell_below hb5 (cell_alloc (x0_4))
  have x1_5 := cell_below hb5 (cell_alloc (x1_4))
  have x2_5 := cell_below hb5 (cell_alloc (x2_4))
  have y0_5 := cell_below hb5 (cell_alloc (y0_4))
  have y1_5 := cell_below hb5 (cell_alloc (y1_4))
  have y2_5 := cell_below hb5 (cell_alloc (y2_4))
  have op0_5 := cell_below hb5 (cell_alloc (op0_4))
  have op1_5 := cell_below hb5 (cell_alloc (op1_4))
  have p0_5 := cell_below hb5 (a := ⟨w4.heap.size, 0, none⟩) (v := .int .i64 2) (by simp [go_sem])
  have p1_5 := cell_below hb5 (a := ⟨w4.heap.size, 1, none⟩) (v := .int .i64 (a + b)) (by simp [go_sem])
  have p2_5 := cell_below hb5 (a := ⟨w4.heap.size, 2, none⟩) (v := .string ⟨#[]⟩) (by simp [go_sem])
  have B5 := later (B4.alloc B4.size _) hb5
  have hz_x0_5 := lt_of_cell x0_5
  have hz_y0_5 := lt_of_cell y0_5
  have hz_op0_5 := lt_of_cell op0_5
  have hz_p0_5 := lt_of_cell p0_5
  clear x0_4 x1_4 x2_4 y0_4 y1_4 y2_4 op0_4 op1_4 hz_x0_4 hz_y0_4 hz_op0_4
  go_wp2_with fail
  rw [rounds_succ]
  go_wp2_with fail
  refine (cM1 _).mono ?_
  rintro e w6 ⟨rfl, hb6⟩
  have x0_6 := cell_below hb6 (cell_alloc (x0_5))
  have x1_6 := cell_below hb6 (cell_alloc (x1_5))
  have x2_6 := cell_below hb6 (cell_alloc (x2_5))
  have y0_6 := cell_below hb6 (cell_alloc (y0_5))
  have y1_6 := cell_below hb6 (cell_alloc (y1_5))
  have y2_6 := cell_below hb6 (cell_alloc (y2_5))
  have op0_6 := cell_below hb6 (cell_alloc (op0_5))
  have op1_6 := cell_below hb6 (cell_alloc (op1_5))
  have p0_6 := cell_below hb6 (cell_alloc (p0_5))
  have p1_6 := cell_below hb6 (cell_alloc (p1_5))
  have p2_6 := cell_below hb6 (cell_alloc (p2_5))
  have q0_6 := cell_below hb6 (a := ⟨w5.heap.size, 0, none⟩) (v := .int .i64 2) (by simp [go_sem])
  have q1_6 := cell_below hb6 (a := ⟨w5.heap.size, 1, none⟩) (v := .int .i64 (a + b)) (by simp [go_sem])
  have q2_6 := cell_below hb6 (a := ⟨w5.heap.size, 2, none⟩) (v := .string ⟨#[]⟩) (by simp [go_sem])
  have B6 := later (B5.alloc B5.size _) hb6
  have hz_x0_6 := lt_of_cell x0_6
  have hz_y0_6 := lt_of_cell y0_6
  have hz_op0_6 := lt_of_cell op0_6
  have hz_p0_6 := lt_of_cell p0_6
  have hz_q0_6 := lt_of_cell q0_6
  clear x0_5 x1_5 x2_5 y0_5 y1_5 y2_5 op0_5 op1_5 p0_5 p1_5 p2_5 hz_x0_5 hz_y0_5 hz_op0_5 hz_p0_5
  go_wp2_with fail
  refine (cM2 _).mono ?_
  rintro e w7 ⟨rfl, hb7⟩
  have x0_7 := cell_below hb7 (cell_alloc (x0_6))
  have x1_7 := cell_below hb7 (cell_alloc (x1_6))
  have x2_7 := cell_below hb7 (cell_alloc (x2_6))
  have y0_7 := cell_below hb7 (cell_alloc (y0_6))
  have y1_7 := cell_below hb7 (cell_alloc (y1_6))
  have y2_7 := cell_below hb7 (cell_alloc (y2_6))
  have op0_7 := cell_below hb7 (cell_alloc (op0_6))
  have op1_7 := cell_below hb7 (cell_alloc (op1_6))
  have p0_7 := cell_below hb7 (cell_alloc (p0_6))
  have p1_7 := cell_below hb7 (cell_alloc (p1_6))
  have p2_7 := cell_below hb7 (cell_alloc (p2_6))
  have q0_7 := cell_below hb7 (cell_alloc (q0_6))
  have q1_7 := cell_below hb7 (cell_alloc (q1_6))
  have q2_7 := cell_below hb7 (cell_alloc (q2_6))
  have p20_7 := cell_below hb7 (a := ⟨w6.heap.size, 0, none⟩) (v := .int .i64 rm.k) (by simp [go_sem])
  have p21_7 := cell_below hb7 (a := ⟨w6.heap.size, 1, none⟩) (v := .int .i64 rm.i) (by simp [go_sem])
  have p22_7 := cell_below hb7 (a := ⟨w6.heap.size, 2, none⟩) (v := .string rm.s) (by simp [go_sem])
  have B7 := later (B6.alloc B6.size _) hb7
  have hz_x0_7 := lt_of_cell x0_7
  have hz_y0_7 := lt_of_cell y0_7
  have hz_op0_7 := lt_of_cell op0_7
  have hz_p0_7 := lt_of_cell p0_7
  have hz_q0_7 := lt_of_cell q0_7
  have hz_p20_7 := lt_of_cell p20_7
  clear x0_6 x1_6 x2_6 y0_6 y1_6 y2_6 op0_6 op1_6 p0_6 p1_6 p2_6 q0_6 q1_6 q2_6 hz_x0_6 hz_y0_6 hz_op0_6 hz_p0_6 hz_q0_6
  go_wp2_with fail
  rw [rounds_succ]
  go_wp2_with fail
  refine (cP1 _).mono ?_
  rintro e w8 ⟨rfl, hb8⟩
  have x0_8 := cell_below hb8 (cell_alloc (x0_7))
  have x1_8 := cell_below hb8 (cell_alloc (x1_7))
  have x2_8 := cell_below hb8 (cell_alloc (x2_7))
  have y0_8 := cell_below hb8 (cell_alloc (y0_7))
  have y1_8 := cell_below hb8 (cell_alloc (y1_7))
  have y2_8 := cell_below hb8 (cell_alloc (y2_7))
  have op0_8 := cell_below hb8 (cell_alloc (op0_7))
  have op1_8 := cell_below hb8 (cell_alloc (op1_7))
  have p0_8 := cell_below hb8 (cell_alloc (p0_7))
  have p1_8 := cell_below hb8 (cell_alloc (p1_7))
  have p2_8 := cell_below hb8 (cell_alloc (p2_7))
  have q0_8 := cell_below hb8 (cell_alloc (q0_7))
  have q1_8 := cell_below hb8 (cell_alloc (q1_7))
  have q2_8 := cell_below hb8 (cell_alloc (q2_7))
  have p20_8 := cell_below hb8 (cell_alloc (p20_7))
  have p21_8 := cell_below hb8 (cell_alloc (p21_7))
  have p22_8 := cell_below hb8 (cell_alloc (p22_7))
  have q20_8 := cell_below hb8 (a := ⟨w7.heap.size, 0, none⟩) (v := .int .i64 rm.k) (by simp [go_sem])
  have q21_8 := cell_below hb8 (a := ⟨w7.heap.size, 1, none⟩) (v := .int .i64 rm.i) (by simp [go_sem])
  have q22_8 := cell_below hb8 (a := ⟨w7.heap.size, 2, none⟩) (v := .string rm.s) (by simp [go_sem])
  have B8 := later (B7.alloc B7.size _) hb8
  have hz_x0_8 := lt_of_cell x0_8
  have hz_y0_8 := lt_of_cell y0_8
  have hz_op0_8 := lt_of_cell op0_8
  have hz_p0_8 := lt_of_cell p0_8
  have hz_q0_8 := lt_of_cell q0_8
  have hz_p20_8 := lt_of_cell p20_8
  have hz_q20_8 := lt_of_cell q20_8
  clear x0_7 x1_7 x2_7 y0_7 y1_7 y2_7 op0_7 op1_7 p0_7 p1_7 p2_7 q0_7 q1_7 q2_7 p20_7 p21_7 p22_7 hz_x0_7 hz_y0_7 hz_op0_7 hz_p0_7 hz_q0_7 hz_p20_7
  go_wp2_with fail
  refine (cS _).mono ?_
  rintro e w9 ⟨rfl, hb9⟩
  have x0_9 := cell_below hb9 (cell_alloc (x0_8))
  have x1_9 := cell_below hb9 (cell_alloc (x1_8))
  have x2_9 := cell_below hb9 (cell_alloc (x2_8))
  have y0_9 := cell_below hb9 (cell_alloc (y0_8))
  have y1_9 := cell_below hb9 (cell_alloc (y1_8))
  have y2_9 := cell_below hb9 (cell_alloc (y2_8))
  have op0_9 := cell_below hb9 (cell_alloc (op0_8))
  have op1_9 := cell_below hb9 (cell_alloc (op1_8))
  have p0_9 := cell_below hb9 (cell_alloc (p0_8))
  have p1_9 := cell_below hb9 (cell_alloc (p1_8))
  have p2_9 := cell_below hb9 (cell_alloc (p2_8))
  have q0_9 := cell_below hb9 (cell_alloc (q0_8))
  have q1_9 := cell_below hb9 (cell_alloc (q1_8))
  have q2_9 := cell_below hb9 (cell_alloc (q2_8))
  have p20_9 := cell_below hb9 (cell_alloc (p20_8))
  have p21_9 := cell_below hb9 (cell_alloc (p21_8))
  have p22_9 := cell_below hb9 (cell_alloc (p22_8))
  have q20_9 := cell_below hb9 (cell_alloc (q20_8))
  have q21_9 := cell_below hb9 (cell_alloc (q21_8))
  have q22_9 := cell_below hb9 (cell_alloc (q22_8))
  have s0_9 := cell_below hb9 (a := ⟨w8.heap.size, 0, none⟩) (v := .int .i64 2) (by simp [go_sem])
  have s1_9 := cell_below hb9 (a := ⟨w8.heap.size, 1, none⟩) (v := .int .i64 (a + b)) (by simp [go_sem])
  have s2_9 := cell_below hb9 (a := ⟨w8.heap.size, 2, none⟩) (v := .string ⟨#[]⟩) (by simp [go_sem])
  have B9 := later (B8.alloc B8.size _) hb9
  have hz_x0_9 := lt_of_cell x0_9
  have hz_y0_9 := lt_of_cell y0_9
  have hz_op0_9 := lt_of_cell op0_9
  have hz_p0_9 := lt_of_cell p0_9
  have hz_q0_9 := lt_of_cell q0_9
  have hz_p20_9 := lt_of_cell p20_9
  have hz_q20_9 := lt_of_cell q20_9
  have hz_s0_9 := lt_of_cell s0_9
  clear x0_8 x1_8 x2_8 y0_8 y1_8 y2_8 op0_8 op1_8 p0_8 p1_8 p2_8 q0_8 q1_8 q2_8 p20_8 p21_8 p22_8 q20_8 q21_8 q22_8 hz_x0_8 hz_y0_8 hz_op0_8 hz_p0_8 hz_q0_8 hz_p20_8 hz_q20_8
  go_wp2_with fail
  refine (cQ _).mono ?_
  rintro e w10 ⟨rfl, hb10⟩
  have x0_10 := cell_below hb10 (cell_alloc (x0_9))
  have x1_10 := cell_below hb10 (cell_alloc (x1_9))
  have x2_10 := cell_below hb10 (cell_alloc (x2_9))
  have y0_10 := cell_below hb10 (cell_alloc (y0_9))
  have y1_10 := cell_below hb10 (cell_alloc (y1_9))
  have y2_10 := cell_below hb10 (cell_alloc (y2_9))
  have op0_10 := cell_below hb10 (cell_alloc (op0_9))
  have op1_10 := cell_below hb10 (cell_alloc (op1_9))
  have p0_10 := cell_below hb10 (cell_alloc (p0_9))
  have p1_10 := cell_below hb10 (cell_alloc (p1_9))
  have p2_10 := cell_below hb10 (cell_alloc (p2_9))
  have q0_10 := cell_below hb10 (cell_alloc (q0_9))
  have q1_10 := cell_below hb10 (cell_alloc (q1_9))
  have q2_10 := cell_below hb10 (cell_alloc (q2_9))
  have p20_10 := cell_below hb10 (cell_alloc (p20_9))
  have p21_10 := cell_below hb10 (cell_alloc (p21_9))
  have p22_10 := cell_below hb10 (cell_alloc (p22_9))
  have q20_10 := cell_below hb10 (cell_alloc (q20_9))
  have q21_10 := cell_below hb10 (cell_alloc (q21_9))
  have q22_10 := cell_below hb10 (cell_alloc (q22_9))
  have s0_10 := cell_below hb10 (cell_alloc (s0_9))
  have s1_10 := cell_below hb10 (cell_alloc (s1_9))
  have s2_10 := cell_below hb10 (cell_alloc (s2_9))
  have back0_10 := cell_below hb10 (a := ⟨w9.heap.size, 0, none⟩) (v := .int .i64 2) (by simp [go_sem])
  have back1_10 := cell_below hb10 (a := ⟨w9.heap.size, 1, none⟩) (v := .int .i64 a) (by simp [go_sem])
  have back2_10 := cell_below hb10 (a := ⟨w9.heap.size, 2, none⟩) (v := .string ⟨#[]⟩) (by simp [go_sem])
  have B10 := later (B9.alloc B9.size _) hb10
  have hz_x0_10 := lt_of_cell x0_10
  have hz_y0_10 := lt_of_cell y0_10
  have hz_op0_10 := lt_of_cell op0_10
  have hz_p0_10 := lt_of_cell p0_10
  have hz_q0_10 := lt_of_cell q0_10
  have hz_p20_10 := lt_of_cell p20_10
  have hz_q20_10 := lt_of_cell q20_10
  have hz_s0_10 := lt_of_cell s0_10
  have hz_back0_10 := lt_of_cell back0_10
  clear x0_9 x1_9 x2_9 y0_9 y1_9 y2_9 op0_9 op1_9 p0_9 p1_9 p2_9 q0_9 q1_9 q2_9 p20_9 p21_9 p22_9 q20_9 q21_9 q22_9 s0_9 s1_9 s2_9 hz_x0_9 hz_y0_9 hz_op0_9 hz_p0_9 hz_q0_9 hz_p20_9 hz_q20_9 hz_s0_9
  go_wp2_with fail
  refine (cR _).mono ?_
  rintro e w11 ⟨rfl, hb11⟩
  have x0_11 := cell_below hb11 (cell_alloc (x0_10))
  have x1_11 := cell_below hb11 (cell_alloc (x1_10))
  have x2_11 := cell_below hb11 (cell_alloc (x2_10))
  have y0_11 := cell_below hb11 (cell_alloc (y0_10))
  have y1_11 := cell_below hb11 (cell_alloc (y1_10))
  have y2_11 := cell_below hb11 (cell_alloc (y2_10))
  have op0_11 := cell_below hb11 (cell_alloc (op0_10))
  have op1_11 := cell_below hb11 (cell_alloc (op1_10))
  have p0_11 := cell_below hb11 (cell_alloc (p0_10))
  have p1_11 := cell_below hb11 (cell_alloc (p1_10))
  have p2_11 := cell_below hb11 (cell_alloc (p2_10))
  have q0_11 := cell_below hb11 (cell_alloc (q0_10))
  have q1_11 := cell_below hb11 (cell_alloc (q1_10))
  have q2_11 := cell_below hb11 (cell_alloc (q2_10))
  have p20_11 := cell_below hb11 (cell_alloc (p20_10))
  have p21_11 := cell_below hb11 (cell_alloc (p21_10))
  have p22_11 := cell_below hb11 (cell_alloc (p22_10))
  have q20_11 := cell_below hb11 (cell_alloc (q20_10))
  have q21_11 := cell_below hb11 (cell_alloc (q21_10))
  have q22_11 := cell_below hb11 (cell_alloc (q22_10))
  have s0_11 := cell_below hb11 (cell_alloc (s0_10))
  have s1_11 := cell_below hb11 (cell_alloc (s1_10))
  have s2_11 := cell_below hb11 (cell_alloc (s2_10))
  have back0_11 := cell_below hb11 (cell_alloc (back0_10))
  have back1_11 := cell_below hb11 (cell_alloc (back1_10))
  have back2_11 := cell_below hb11 (cell_alloc (back2_10))
  have qu0_11 := cell_below hb11 (a := ⟨w10.heap.size, 0, none⟩) (v := .int .i64 0) (by simp [go_sem])
  have qu1_11 := cell_below hb11 (a := ⟨w10.heap.size, 1, none⟩) (v := .int .i64 0) (by simp [go_sem])
  have qu2_11 := cell_below hb11 (a := ⟨w10.heap.size, 2, none⟩) (v := .string ⟨#[]⟩) (by simp [go_sem])
  have B11 := later (B10.alloc B10.size _) hb11
  have hz_x0_11 := lt_of_cell x0_11
  have hz_y0_11 := lt_of_cell y0_11
  have hz_op0_11 := lt_of_cell op0_11
  have hz_p0_11 := lt_of_cell p0_11
  have hz_q0_11 := lt_of_cell q0_11
  have hz_p20_11 := lt_of_cell p20_11
  have hz_q20_11 := lt_of_cell q20_11
  have hz_s0_11 := lt_of_cell s0_11
  have hz_back0_11 := lt_of_cell back0_11
  have hz_qu0_11 := lt_of_cell qu0_11
  clear x0_10 x1_10 x2_10 y0_10 y1_10 y2_10 op0_10 op1_10 p0_10 p1_10 p2_10 q0_10 q1_10 q2_10 p20_10 p21_10 p22_10 q20_10 q21_10 q22_10 s0_10 s1_10 s2_10 back0_10 back1_10 back2_10 hz_x0_10 hz_y0_10 hz_op0_10 hz_p0_10 hz_q0_10 hz_p20_10 hz_q20_10 hz_s0_10 hz_back0_10
  go_wp2
  go_returns
  exact Rets.bool rfl (B11.alloc B11.size _)

set_option maxRecDepth 100000 in
set_option maxHeartbeats 4000000 in
theorem turns_s1_q2 (a b : Int) (w : World) (ha : I64 a) (hb : I64 b) (hm : SomeMax w) (hs : fits (a + b) = true) (h0 : b ≠ 0) (hf : fits (a.tdiv b) = true) : Calls Tryd.prog 4 #[.int .i64 a, .int .i64 b] w (Rets (.bool true) w) := by
  have cL := live_true w hm
  have cNa := fun W => ref_Int1 a W
  have cNb := fun W => ref_Int1 b W
  obtain ⟨⟨rm, em⟩, hmm⟩ : ∃ r, arithS [42] (GV.num a) (GV.num b) = r := ⟨_, rfl⟩
  have hp : arithS [43] (GV.num a) (GV.num b) = (GV.num (a + b), 0) := by rw [arith_add, hs]; rfl
  have hs2 : arithS [45] (GV.num (a + b)) (GV.num b) = (GV.num a, 0) := by rw [arith_sub, Int.add_sub_cancel, fits_I64.2 ha]; rfl
  have cS := contract_arith 45 _ _ _ _ hs2 (fits_I64.1 hs) hb
  obtain ⟨quo, hquo⟩ : ∃ q, q = a.tdiv b := ⟨_, rfl⟩
  obtain ⟨rmd, hrmd⟩ : ∃ q, q = a.tmod b := ⟨_, rfl⟩
  have hq : arithS [47] (GV.num a) (GV.num b) = (GV.num quo, 0) := by rw [arith_quo a b h0, hf, hquo]; rfl
  have hr : arithS [37] (GV.num a) (GV.num b) = (GV.num rmd, 0) := by rw [hrmd]; exact arith_rem a b h0
  have HBACK : Hid (wrap64 (wrap64 (quo * b) + rmd) = a) := by rw [hquo, hrmd]; exact quo_back a b ha
  have HSIGN : Hid (rmd ≠ 0 → (decide (rmd < 0) == decide (a < 0)) = true) := by rw [hrmd]; exact rem_sign a b
  clear hquo hrmd
  have cP1 := contract_arith 43 _ _ _ _ hp ha hb
  have cP2 := contract_arith 43 _ _ _ _ ((arith_add_comm b a).trans hp) hb ha
  have cM1 := contract_arith 42 _ _ _ _ hmm ha hb
  have cM2 := contract_arith 42 _ _ _ _ ((arith_mul_comm b a).trans hmm) hb ha
  have cQ := contract_arith 47 _ _ _ _ hq ha hb
  have cR := contract_arith 37 _ _ _ _ hr ha hb
  simp only [GV.val, GV.num, GV.none] at cNa cNb cP1 cP2 cM1 cM2 cQ cR cS
  clear hmm hp hq hr ha hb hm
  have hb0 : (b == 0) = false := beq_eq_false_iff_ne.2 h0
  clear h0 hs hf
  go_enter Tryd.func4, Tryd.ntmps4
  go_wp2_with fail
  refine (cL).mono ?_
  rintro e w1 ⟨rfl, hb1⟩
  have B1 := later (Below.refl _ _) hb1
  go_wp2_with fail
  refine (cNa _).mono ?_
  rintro e w2 ⟨rfl, hb2⟩
  have B2 := later B1 hb2
  go_wp2_with fail
  refine (cNb _).mono ?_
  rintro e w3 ⟨rfl, hb3⟩
  have x0_3 := cell_below hb3 (a := ⟨w2.heap.size, 0, none⟩) (v := .int .i64 2) (by simp [go_sem])
  have x1_3 := cell_below hb3 (a := ⟨w2.heap.size, 1, none⟩) (v := .int .i64 a) (by simp [go_sem])
  have x2_3 := cell_below hb3 (a := ⟨w2.heap.size, 2, none⟩) (v := .string ⟨#[]⟩) (by simp [go_sem])
  have B3 := later (B2.alloc B2.size _) hb3
  have hz_x0_3 := lt_of_cell x0_3
  go_wp2_with fail
  refine wp_loop_rounds 3 ?_
  rw [rounds_succ]
  go_wp2_with fail
  refine (cP1 _).mono ?_
  rintro e w4 ⟨rfl, hb4⟩
  have x0_4 := cell_below hb4 (cell_alloc (cell_alloc (x0_3)))
  have x1_4 := cell_below hb4 (cell_alloc (cell_alloc (x1_3)))
  have x2_4 := cell_below hb4 (cell_alloc (cell_alloc (x2_3)))
  have y0_4 := cell_below hb4 (a := ⟨w3.heap.size, 0, none⟩) (v := .int .i64 2) (by simp [go_sem])
  have y1_4 := cell_below hb4 (a := ⟨w3.heap.size, 1, none⟩) (v := .int .i64 b) (by simp [go_sem])
  have y2_4 := cell_below hb4 (a := ⟨w3.heap.size, 2, none⟩) (v := .string ⟨#[]⟩) (by simp [go_sem])
  have op0_4 := cell_below hb4 (a := ⟨w3.heap.size + 1, 0, none⟩) (v := .string ⟨#[43]⟩) (by simp [go_sem])
  have op1_4 := cell_below hb4 (a := ⟨w3.heap.size + 1, 1, none⟩) (v := .string ⟨#[42]⟩) (by simp [go_sem])
  have B4 := later ((B3.alloc B3.size _).alloc (B3.alloc B3.size _).size _) hb4
  have hz_x0_4 := lt_of_cell x0_4
  have hz_y0_4 := lt_of_cell y0_4
  have hz_op0_4 := lt_of_cell op0_4
  clear x0_3 x1_3 x2_3 hz_x0_3
  go_wp2_with fail
  refine (cP2 _).mono ?_
  rintro e w5 ⟨rfl, hb5⟩
  have x0_5 := cell_below hb5 (cell_alloc (x0_4))
  have x1_5 := cell_below hb5 (cell_alloc (x1_4))
  have x2_5 := cell_below hb5 (cell_alloc (x2_4))
  have y0_5 := cell_below hb5 (cell_alloc (y0_4))
  have y1_5 := cell_below hb5 (cell_alloc (y1_4))
  have y2_5 := cell_below hb5 (cell_alloc (y2_4))
  have op0_5 := cell_below hb5 (cell_alloc (op0_4))
  have op1_5 := cell_below hb5 (cell_alloc (op1_4))
  have p0_5 := cell_below hb5 (a := ⟨w4.heap.size, 0, none⟩) (v := .int .i64 2) (by simp [go_sem])
  have p1_5 := cell_below hb5 (a := ⟨w4.heap.size, 1, none⟩) (v := .int .i64 (a + b)) (by simp [go_sem])
  have p2_5 := cell_below hb5 (a := ⟨w4.heap.size, 2, none⟩) (v := .string ⟨#[]⟩) (by simp [go_sem])
  have B5 := later (B4.alloc B4.size _) hb5
  have hz_x0_5 := lt_of_cell x0_5
  have hz_y0_5 := lt_of_cell y0_5
  have hz_op0_5 := lt_of_cell op0_5
  have hz_p0_5 := lt_of_cell p0_5
  clear x0_4 x1_4 x2_4 y0_4 y1_4 y2_4 op0_4 op1_4 hz_x0_4 hz_y0_4 hz_op0_4
  go_wp2_with fail
  rw [rounds_succ]
  go_wp2_with fail
  refine (cM1 _).mono ?_
  rintro e w6 ⟨rfl, hb6⟩
  have x0_6 := cell_below hb6 (cell_alloc (x0_5))
  have x1_6 := cell_below hb6 (cell_alloc (x1_5))
  have x2_6 := cell_below hb6 (cell_alloc (x2_5))
  have y0_6 := cell_below hb6 (cell_alloc (y0_5))
  have y1_6 := cell_below hb6 (cell_alloc (y1_5))
  have y2_6 := cell_below hb6 (cell_alloc (y2_5))
  have op0_6 := cell_below hb6 (cell_alloc (op0_5))
  have op1_6 := cell_below hb6 (cell_alloc (op1_5))
  have p0_6 := cell_below hb6 (cell_alloc (p0_5))
  have p1_6 := cell_below hb6 (cell_alloc (p1_5))
  have p2_6 := cell_below hb6 (cell_alloc (p2_5))
  have q0_6 := cell_below hb6 (a := ⟨w5.heap.size, 0, none⟩) (v := .int .i64 2) (by simp [go_sem])
  have q1_6 := cell_below hb6 (a := ⟨w5.heap.size, 1, none⟩) (v := .int .i64 (a + b)) (by simp [go_sem])
  have q2_6 := cell_below hb6 (a := ⟨w5.heap.size, 2, none⟩) (v := .string ⟨#[]⟩) (by simp [go_sem])
  have B6 := later (B5.alloc B5.size _) hb6
  have hz_x0_6 := lt_of_cell x0_6
  have hz_y0_6 := lt_of_cell y0_6
  have hz_op0_6 := lt_of_cell op0_6
  have hz_p0_6 := lt_of_cell p0_6
  have hz_q0_6 := lt_of_cell q0_6
  clear x0_5 x1_5 x2_5 y0_5 y1_5 y2_5 op0_5 op1_5 p0_5 p1_5 p2_5 hz_x0_5 hz_y0_5 hz_op0_5 hz_p0_5
  go_wp2_with fail
  refine (cM2 _).mono ?_
  rintro e w7 ⟨rfl, hb7⟩
  have x0_7 := cell_below hb7 (cell_alloc (x0_6))
  have x1_7 := cell_below hb7 (cell_alloc (x1_6))
  have x2_7 := cell_below hb7 (cell_alloc (x2_6))
  have y0_7 := cell_below hb7 (cell_alloc (y0_6))
  have y1_7 := cell_below hb7 (cell_alloc (y1_6))
  have y2_7 := cell_below hb7 (cell_alloc (y2_6))
  have op0_7 := cell_below hb7 (cell_alloc (op0_6))
  have op1_7 := cell_below hb7 (cell_alloc (op1_6))
  have p0_7 := cell_below hb7 (cell_alloc (p0_6))
  have p1_7 := cell_below hb7 (cell_alloc (p1_6))
  have p2_7 := cell_below hb7 (cell_alloc (p2_6))
  have q0_7 := cell_below hb7 (cell_alloc (q0_6))
  have q1_7 := cell_below hb7 (cell_alloc (q1_6))
  have q2_7 := cell_below hb7 (cell_alloc (q2_6))
  have p20_7 := cell_below hb7 (a := ⟨w6.heap.size, 0, none⟩) (v := .int .i64 rm.k) (by simp [go_sem])
  have p21_7 := cell_below hb7 (a := ⟨w6.heap.size, 1, none⟩) (v := .int .i64 rm.i) (by simp [go_sem])
  have p22_7 := cell_below hb7 (a := ⟨w6.heap.size, 2, none⟩) (v := .string rm.s) (by simp [go_sem])
  have B7 := later (B6.alloc B6.size _) hb7
  have hz_x0_7 := lt_of_cell x0_7
  have hz_y0_7 := lt_of_cell y0_7
  have hz_op0_7 := lt_of_cell op0_7
  have hz_p0_7 := lt_of_cell p0_7
  have hz_q0_7 := lt_of_cell q0_7
  have hz_p20_7 := lt_of_cell p20_7
  clear x0_6 x1_6 x2_6 y0_6 y1_6 y2_6 op0_6 op1_6 p0_6 p1_6 p2_6 q0_6 q1_6 q2_6 hz_x0_6 hz_y0_6 hz_op0_6 hz_p0_6 hz_q0_6
  go_wp2_with fail
  rw [rounds_succ]
  go_wp2_with fail
  refine (cP1 _).mono ?_
  rintro e w8 ⟨rfl, hb8⟩
  have x0_8 := cell_below hb8 (cell_alloc (x0_7))
  have x1_8 := cell_below hb8 (cell_alloc (x1_7))
  have x2_8 := cell_below hb8 (cell_alloc (x2_7))
  have y0_8 := cell_below hb8 (cell_alloc (y0_7))
  have y1_8 := cell_below hb8 (cell_alloc (y1_7))
  have y2_8 := cell_below hb8 (cell_alloc (y2_7))
  have op0_8 := cell_below hb8 (cell_alloc (op0_7))
  have op1_8 := cell_below hb8 (cell_alloc (op1_7))
  have p0_8 := cell_below hb8 (cell_alloc (p0_7))
  have p1_8 := cell_below hb8 (cell_alloc (p1_7))
  have p2_8 := cell_below hb8 (cell_alloc (p2_7))
  have q0_8 := cell_below hb8 (cell_alloc (q0_7))
  have q1_8 := cell_below hb8 (cell_alloc (q1_7))
  have q2_8 := cell_below hb8 (cell_alloc (q2_7))
  have p20_8 := cell_below hb8 (cell_alloc (p20_7))
  have p21_8 := cell_below hb8 (cell_alloc (p21_7))
  have p22_8 := cell_below hb8 (cell_alloc (p22_7))
  have q20_8 := cell_below hb8 (a := ⟨w7.heap.size, 0, none⟩) (v := .int .i64 rm.k) (by simp [go_sem])
  have q21_8 := cell_below hb8 (a := ⟨w7.heap.size, 1, none⟩) (v := .int .i64 rm.i) (by simp [go_sem])
  have q22_8 := cell_below hb8 (a := ⟨w7.heap.size, 2, none⟩) (v := .string rm.s) (by simp [go_sem])
  have B8 := later (B7.alloc B7.size _) hb8
  have hz_x0_8 := lt_of_cell x0_8
  have hz_y0_8 := lt_of_cell y0_8
  have hz_op0_8 := lt_of_cell op0_8
  have hz_p0_8 := lt_of_cell p0_8
  have hz_q0_8 := lt_of_cell q0_8
  have hz_p20_8 := lt_of_cell p20_8
  have hz_q20_8 := lt_of_cell q20_8
  clear x0_7 x1_7 x2_7 y0_7 y1_7 y2_7 op0_7 op1_7 p0_7 p1_7 p2_7 q0_7 q1_7 q2_7 p20_7 p21_7 p22_7 hz_x0_7 hz_y0_7 hz_op0_7 hz_p0_7 hz_q0_7 hz_p20_7
  go_wp2_with fail
  refine (cS _).mono ?_
  rintro e w9 ⟨rfl, hb9⟩
  have x0_9 := cell_below hb9 (cell_alloc (x0_8))
  have x1_9 := cell_below hb9 (cell_alloc (x1_8))
  have x2_9 := cell_below hb9 (cell_alloc (x2_8))
  have y0_9 := cell_below hb9 (cell_alloc (y0_8))
  have y1_9 := cell_below hb9 (cell_alloc (y1_8))
  have y2_9 := cell_below hb9 (cell_alloc (y2_8))
  have op0_9 := cell_below hb9 (cell_alloc (op0_8))
  have op1_9 := cell_below hb9 (cell_alloc (op1_8))
  have p0_9 := cell_below hb9 (cell_alloc (p0_8))
  have p1_9 := cell_below hb9 (cell_alloc (p1_8))
  have p2_9 := cell_below hb9 (cell_alloc (p2_8))
  have q0_9 := cell_below hb9 (cell_alloc (q0_8))
  have q1_9 := cell_below hb9 (cell_alloc (q1_8))
  have q2_9 := cell_below hb9 (cell_alloc (q2_8))
  have p20_9 := cell_below hb9 (cell_alloc (p20_8))
  have p21_9 := cell_below hb9 (cell_alloc (p21_8))
  have p22_9 := cell_below hb9 (cell_alloc (p22_8))
  have q20_9 := cell_below hb9 (cell_alloc (q20_8))
  have q21_9 := cell_below hb9 (cell_alloc (q21_8))
  have q22_9 := cell_below hb9 (cell_alloc (q22_8))
  have s0_9 := cell_below hb9 (a := ⟨w8.heap.size, 0, none⟩) (v := .int .i64 2) (by simp [go_sem])
  have s1_9 := cell_below hb9 (a := ⟨w8.heap.size, 1, none⟩) (v := .int .i64 (a + b)) (by simp [go_sem])
  have s2_9 := cell_below hb9 (a := ⟨w8.heap.size, 2, none⟩) (v := .string ⟨#[]⟩) (by simp [go_sem])
  have B9 := later (B8.alloc B8.size _) hb9
  have hz_x0_9 := lt_of_cell x0_9
  have hz_y0_9 := lt_of_cell y0_9
  have hz_op0_9 := lt_of_cell op0_9
  have hz_p0_9 := lt_of_cell p0_9
  have hz_q0_9 := lt_of_cell q0_9
  have hz_p20_9 := lt_of_cell p20_9
  have hz_q20_9 := lt_of_cell q20_9
  have hz_s0_9 := lt_of_cell s0_9
  clear x0_8 x1_8 x2_8 y0_8 y1_8 y2_8 op0_8 op1_8 p0_8 p1_8 p2_8 q0_8 q1_8 q2_8 p20_8 p21_8 p22_8 q20_8 q21_8 q22_8 hz_x0_8 hz_y0_8 hz_op0_8 hz_p0_8 hz_q0_8 hz_p20_8 hz_q20_8
  go_wp2_with fail
  refine (cQ _).mono ?_
  rintro e w10 ⟨rfl, hb10⟩
  have x0_10 := cell_below hb10 (cell_alloc (x0_9))
  have x1_10 := cell_below hb10 (cell_alloc (x1_9))
  have x2_10 := cell_below hb10 (cell_alloc (x2_9))
  have y0_10 := cell_below hb10 (cell_alloc (y0_9))
  have y1_10 := cell_below hb10 (cell_alloc (y1_9))
  have y2_10 := cell_below hb10 (cell_alloc (y2_9))
  have op0_10 := cell_below hb10 (cell_alloc (op0_9))
  have op1_10 := cell_below hb10 (cell_alloc (op1_9))
  have p0_10 := cell_below hb10 (cell_alloc (p0_9))
  have p1_10 := cell_below hb10 (cell_alloc (p1_9))
  have p2_10 := cell_below hb10 (cell_alloc (p2_9))
  have q0_10 := cell_below hb10 (cell_alloc (q0_9))
  have q1_10 := cell_below hb10 (cell_alloc (q1_9))
  have q2_10 := cell_below hb10 (cell_alloc (q2_9))
  have p20_10 := cell_below hb10 (cell_alloc (p20_9))
  have p21_10 := cell_below hb10 (cell_alloc (p21_9))
  have p22_10 := cell_below hb10 (cell_alloc (p22_9))
  have q20_10 := cell_below hb10 (cell_alloc (q20_9))
  have q21_10 := cell_below hb10 (cell_alloc (q21_9))
  have q22_10 := cell_below hb10 (cell_alloc (q22_9))
  have s0_10 := cell_below hb10 (cell_alloc (s0_9))
  have s1_10 := cell_below hb10 (cell_alloc (s1_9))
  have s2_10 := cell_below hb10 (cell_alloc (s2_9))
  have back0_10 := cell_below hb10 (a := ⟨w9.heap.size, 0, none⟩) (v := .int .i64 2) (by simp [go_sem])
  have back1_10 := cell_below hb10 (a := ⟨w9.heap.size, 1, none⟩) (v := .int .i64 a) (by simp [go_sem])
  have back2_10 := cell_below hb10 (a := ⟨w9.heap.size, 2, none⟩) (v := .string ⟨#[]⟩) (by simp [go_sem])
  have B10 := later (B9.alloc B9.size _) hb10
  have hz_x0_10 := lt_of_cell x0_10
  have hz_y0_10 := lt_of_cell y0_10
  have hz_op0_10 := lt_of_cell op0_10
  have hz_p0_10 := lt_of_cell p0_10
  have hz_q0_10 := lt_of_cell q0_10
  have hz_p20_10 := lt_of_cell p20_10
  have hz_q20_10 := lt_of_cell q20_10
  have hz_s0_10 := lt_of_cell s0_10
  have hz_back0_10 := lt_of_cell back0_10
  clear x0_9 x1_9 x2_9 y0_9 y1_9 y2_9 op0_9 op1_9 p0_9 p1_9 p2_9 q0_9 q1_9 q2_9 p20_9 p21_9 p22_9 q20_9 q21_9 q22_9 s0_9 s1_9 s2_9 hz_x0_9 hz_y0_9 hz_op0_9 hz_p0_9 hz_q0_9 hz_p20_9 hz_q20_9 hz_s0_9
  go_wp2_with fail
  refine (cR _).mono ?_
  rintro e w11 ⟨rfl, hb11⟩
  have x0_11 := cell_below hb11 (cell_alloc (x0_10))
  have x1_11 := cell_below hb11 (cell_alloc (x1_10))
  have x2_11 := cell_below hb11 (cell_alloc (x2_10))
  have y0_11 := cell_below hb11 (cell_alloc (y0_10))
  have y1_11 := cell_below hb11 (cell_alloc (y1_10))
  have y2_11 := cell_below hb11 (cell_alloc (y2_10))
  have op0_11 := cell_below hb11 (cell_alloc (op0_10))
  have op1_11 := cell_below hb11 (cell_alloc (op1_10))
  have p0_11 := cell_below hb11 (cell_alloc (p0_10))
  have p1_11 := cell_below hb11 (cell_alloc (p1_10))
  have p2_11 := cell_below hb11 (cell_alloc (p2_10))
  have q0_11 := cell_below hb11 (cell_alloc (q0_10))
  have q1_11 := cell_below hb11 (cell_alloc (q1_10))
  have q2_11 := cell_below hb11 (cell_alloc (q2_10))
  have p20_11 := cell_below hb11 (cell_alloc (p20_10))
  have p21_11 := cell_below hb11 (cell_alloc (p21_10))
  have p22_11 := cell_below hb11 (cell_alloc (p22_10))
  have q20_11 := cell_below hb11 (cell_alloc (q20_10))
  have q21_11 := cell_below hb11 (cell_alloc (q21_10))
  have q22_11 := cell_below hb11 (cell_alloc (q22_10))
  have s0_11 := cell_below hb11 (cell_alloc (s0_10))
  have s1_11 := cell_below hb11 (cell_alloc (s1_10))
  have s2_11 := cell_below hb11 (cell_alloc (s2_10))
  have back0_11 := cell_below hb11 (cell_alloc (back0_10))
  have back1_11 := cell_below hb11 (cell_alloc (back1_10))
  have back2_11 := cell_below hb11 (cell_alloc (back2_10))
  have qu0_11 := cell_below hb11 (a := ⟨w10.heap.size, 0, none⟩) (v := .int .i64 2) (by simp [go_sem])
  have qu1_11 := cell_below hb11 (a := ⟨w10.heap.size, 1, none⟩) (v := .int .i64 quo) (by simp [go_sem])
  have qu2_11 := cell_below hb11 (a := ⟨w10.heap.size, 2, none⟩) (v := .string ⟨#[]⟩) (by simp [go_sem])
  have B11 := later (B10.alloc B10.size _) hb11
  have hz_x0_11 := lt_of_cell x0_11
  have hz_y0_11 := lt_of_cell y0_11
  have hz_op0_11 := lt_of_cell op0_11
  have hz_p0_11 := lt_of_cell p0_11
  have hz_q0_11 := lt_of_cell q0_11
  have hz_p20_11 := lt_of_cell p20_11
  have hz_q20_11 := lt_of_cell q20_11
  have hz_s0_11 := lt_of_cell s0_11
  have hz_back0_11 := lt_of_cell back0_11
  have hz_qu0_11 := lt_of_cell qu0_11
  clear x0_10 x1_10 x2_10 y0_10 y1_10 y2_10 op0_10 op1_10 p0_10 p1_10 p2_10 q0_10 q1_10 q2_10 p20_10 p21_10 p22_10 q20_10 q21_10 q22_10 s0_10 s1_10 s2_10 back0_10 back1_10 back2_10 hz_x0_10 hz_y0_10 hz_op0_10 hz_p0_10 hz_q0_10 hz_p20_10 hz_q20_10 hz_s0_10 hz_back0_10
  by_cases hz : rmd = 0
  · have hz' : (rmd == 0) = true := beq_iff_eq.2 hz
    have he : (a == wrap64 (wrap64 (quo * b) + rmd)) = true := beq_iff_eq.2 HBACK.out.symm
    clear hz
    go_wp2
    go_returns
    exact Rets.bool rfl (B11.alloc B11.size _)
  · have hz' : (rmd == 0) = false := beq_eq_false_iff_ne.2 hz
    have he : (a == wrap64 (wrap64 (quo * b) + rmd)) = true := beq_iff_eq.2 HBACK.out.symm
    have hg := HSIGN.out hz
    clear hz
    go_wp2
    go_returns
    exact Rets.bool rfl (B11.alloc B11.size _)

set_option maxRecDepth 100000 in
set_option maxHeartbeats 4000000 in
theorem turns_s0_q0 (a b : Int) (w : World) (ha : I64 a) (hb : I64 b) (hm : SomeMax w) (hs : fits (a + b) = false) (h0 : b = 0) : Calls Tryd.prog 4 #[.int .i64 a, .int .i64 b] w (Rets (.bool true) w) := by
  have cL := live_true w hm
  have cNa := fun W => ref_Int1 a W
  have cNb := fun W => ref_Int1 b W
  obtain ⟨⟨rm, em⟩, hmm⟩ : ∃ r, arithS [42] (GV.num a) (GV.num b) = r := ⟨_, rfl⟩
  have hp : arithS [43] (GV.num a) (GV.num b) = (GV.none, 30) := by rw [arith_add, hs]; rfl
  have hq : arithS [47] (GV.num a) (GV.num b) = (GV.none, 31) := by rw [h0]; exact arith_quo0 a
  have hr : arithS [37] (GV.num a) (GV.num b) = (GV.none, 31) := by rw [h0]; exact arith_rem0 a
  have hb0 : (b == 0) = true := beq_iff_eq.2 h0
  have cP1 := contract_arith 43 _ _ _ _ hp ha hb
  have cP2 := contract_arith 43 _ _ _ _ ((arith_add_comm b a).trans hp) hb ha
  have cM1 := contract_arith 42 _ _ _ _ hmm ha hb
  have cM2 := contract_arith 42 _ _ _ _ ((arith_mul_comm b a).trans hmm) hb ha
  have cQ := contract_arith 47 _ _ _ _ hq ha hb
  have cR := contract_arith 37 _ _ _ _ hr ha hb
  simp only [GV.val, GV.num, GV.none] at cNa cNb cP1 cP2 cM1 cM2 cQ cR 
  clear hmm hp hq hr ha hb hm
  clear h0 hs
  go_enter Tryd.func4, Tryd.ntmps4
  go_wp2_with fail
  refine (cL).mono ?_
  rintro e w1 ⟨rfl, hb1⟩
  have B1 := later (Below.refl _ _) hb1
  go_wp2_with fail
  refine (cNa _).mono ?_
  rintro e w2 ⟨rfl, hb2⟩
  have B2 := later B1 hb2
  go_wp2_with fail
  refine (cNb _).mono ?_
  rintro e w3 ⟨rfl, hb3⟩
  have x0_3 := cell_below hb3 (a := ⟨w2.heap.size, 0, none⟩) (v := .int .i64 2) (by simp [go_sem])
  have x1_3 := cell_below hb3 (a := ⟨w2.heap.size, 1, none⟩) (v := .int .i64 a) (by simp [go_sem])
  have x2_3 := cell_below hb3 (a := ⟨w2.heap.size, 2, none⟩) (v := .string ⟨#[]⟩) (by simp [go_sem])
  have B3 := later (B2.alloc B2.size _) hb3
  have hz_x0_3 := lt_of_cell x0_3
  go_wp2_with fail
  refine wp_loop_rounds 3 ?_
  rw [rounds_succ]
  go_wp2_with fail
  refine (cP1 _).mono ?_
  rintro e w4 ⟨rfl, hb4⟩
  have x0_4 := cell_below hb4 (cell_alloc (cell_alloc (x0_3)))
  have x1_4 := cell_below hb4 (cell_alloc (cell_alloc (x1_3)))
  have x2_4 := cell_below hb4 (cell_alloc (cell_alloc (x2_3)))
  have y0_4 := cell_below hb4 (a := ⟨w3.heap.size, 0, none⟩) (v := .int .i64 2) (by simp [go_sem])
  have y1_4 := cell_below hb4 (a := ⟨w3.heap.size, 1, none⟩) (v := .int .i64 b) (by simp [go_sem])
  have y2_4 := cell_below hb4 (a := ⟨w3.heap.size, 2, none⟩) (v := .string ⟨#[]⟩) (by simp [go_sem])
  have op0_4 := cell_below hb4 (a := ⟨w3.heap.size + 1, 0, none⟩) (v := .string ⟨#[43]⟩) (by simp [go_sem])
  have op1_4 := cell_below hb4 (a := ⟨w3.heap.size + 1, 1, none⟩) (v := .string ⟨#[42]⟩) (by simp [go_sem])
  have B4 := later ((B3.alloc B3.size _).alloc (B3.alloc B3.size _).size _) hb4
  have hz_x0_4 := lt_of_cell x0_4
  have hz_y0_4 := lt_of_cell y0_4
  have hz_op0_4 := lt_of_cell op0_4
  clear x0_3 x1_3 x2_3 hz_x0_3
  go_wp2_with fail
  refine (cP2 _).mono ?_
  rintro e w5 ⟨rfl, hb5⟩
  have x0_5 := cell_below hb5 (cell_alloc (x0_4))
  have x1_5 := cell_below hb5 (cell_alloc (x1_4))
  have x2_5 := cell_below hb5 (cell_alloc (x2_4))
  have y0_5 := cell_below hb5 (cell_alloc (y0_4))
  have y1_5 := cell_below hb5 (cell_alloc (y1_4))
  have y2_5 := cell_below hb5 (cell_alloc (y2_4))
  have op0_5 := cell_below hb5 (cell_alloc (op0_4))
  have op1_5 := cell_below hb5 (cell_alloc (op1_4))
  have p0_5 := cell_below hb5 (a := ⟨w4.heap.size, 0, none⟩) (v := .int .i64 0) (by simp [go_sem])
  have p1_5 := cell_below hb5 (a := ⟨w4.heap.size, 1, none⟩) (v := .int .i64 0) (by simp [go_sem])
  have p2_5 := cell_below hb5 (a := ⟨w4.heap.size, 2, none⟩) (v := .string ⟨#[]⟩) (by simp [go_sem])
  have B5 := later (B4.alloc B4.size _) hb5
  have hz_x0_5 := lt_of_cell x0_5
  have hz_y0_5 := lt_of_cell y0_5
  have hz_op0_5 := lt_of_cell op0_5
  have hz_p0_5 := lt_of_cell p0_5
  clear x0_4 x1_4 x2_4 y0_4 y1_4 y2_4 op0_4 op1_4 hz_x0_4 hz_y0_4 hz_op0_4
  go_wp2_with fail
  rw [rounds_succ]
  go_wp2_with fail
  refine (cM1 _).mono ?_
  rintro e w6 ⟨rfl, hb6⟩
  have x0_6 := cell_below hb6 (cell_alloc (x0_5))
  have x1_6 := cell_below hb6 (cell_alloc (x1_5))
  have x2_6 := cell_below hb6 (cell_alloc (x2_5))
  have y0_6 := cell_below hb6 (cell_alloc (y0_5))
  have y1_6 := cell_below hb6 (cell_alloc (y1_5))
  have y2_6 := cell_below hb6 (cell_alloc (y2_5))
  have op0_6 := cell_below hb6 (cell_alloc (op0_5))
  have op1_6 := cell_below hb6 (cell_alloc (op1_5))
  have p0_6 := cell_below hb6 (cell_alloc (p0_5))
  have p1_6 := cell_below hb6 (cell_alloc (p1_5))
  have p2_6 := cell_below hb6 (cell_alloc (p2_5))
  have q0_6 := cell_below hb6 (a := ⟨w5.heap.size, 0, none⟩) (v := .int .i64 0) (by simp [go_sem])
  have q1_6 := cell_below hb6 (a := ⟨w5.heap.size, 1, none⟩) (v := .int .i64 0) (by simp [go_sem])
  have q2_6 := cell_below hb6 (a := ⟨w5.heap.size, 2, none⟩) (v := .string ⟨#[]⟩) (by simp [go_sem])
  have B6 := later (B5.alloc B5.size _) hb6
  have hz_x0_6 := lt_of_cell x0_6
  have hz_y0_6 := lt_of_cell y0_6
  have hz_op0_6 := lt_of_cell op0_6
  have hz_p0_6 := lt_of_cell p0_6
  have hz_q0_6 := lt_of_cell q0_6
  clear x0_5 x1_5 x2_5 y0_5 y1_5 y2_5 op0_5 op1_5 p0_5 p1_5 p2_5 hz_x0_5 hz_y0_5 hz_op0_5 hz_p0_5
  go_wp2_with fail
  refine (cM2 _).mono ?_
  rintro e w7 ⟨rfl, hb7⟩
  have x0_7 := cell_below hb7 (cell_alloc (x0_6))
  have x1_7 := cell_below hb7 (cell_alloc (x1_6))
  have x2_7 := cell_below hb7 (cell_alloc (x2_6))
  have y0_7 := cell_below hb7 (cell_alloc (y0_6))
  have y1_7 := cell_below hb7 (cell_alloc (y1_6))
  have y2_7 := cell_below hb7 (cell_alloc (y2_6))
  have op0_7 := cell_below hb7 (cell_alloc (op0_6))
  have op1_7 := cell_below hb7 (cell_alloc (op1_6))
  have p0_7 := cell_below hb7 (cell_alloc (p0_6))
  have p1_7 := cell_below hb7 (cell_alloc (p1_6))
  have p2_7 := cell_below hb7 (cell_alloc (p2_6))
  have q0_7 := cell_below hb7 (cell_alloc (q0_6))
  have q1_7 := cell_below hb7 (cell_alloc (q1_6))
  have q2_7 := cell_below hb7 (cell_alloc (q2_6))
  have p20_7 := cell_below hb7 (a := ⟨w6.heap.size, 0, none⟩) (v := .int .i64 rm.k) (by simp [go_sem])
  have p21_7 := cell_below hb7 (a := ⟨w6.heap.size, 1, none⟩) (v := .int .i64 rm.i) (by simp [go_sem])
  have p22_7 := cell_below hb7 (a := ⟨w6.heap.size, 2, none⟩) (v := .string rm.s) (by simp [go_sem])
  have B7 := later (B6.alloc B6.size _) hb7
  have hz_x0_7 := lt_of_cell x0_7
  have hz_y0_7 := lt_of_cell y0_7
  have hz_op0_7 := lt_of_cell op0_7
  have hz_p0_7 := lt_of_cell p0_7
  have hz_q0_7 := lt_of_cell q0_7
  have hz_p20_7 := lt_of_cell p20_7
  clear x0_6 x1_6 x2_6 y0_6 y1_6 y2_6 op0_6 op1_6 p0_6 p1_6 p2_6 q0_6 q1_6 q2_6 hz_x0_6 hz_y0_6 hz_op0_6 hz_p0_6 hz_q0_6
  go_wp2_with fail
  rw [rounds_succ]
  go_wp2_with fail
  refine (cP1 _).mono ?_
  rintro e w8 ⟨rfl, hb8⟩
  have x0_8 := cell_below hb8 (cell_alloc (x0_7))
  have x1_8 := cell_below hb8 (cell_alloc (x1_7))
  have x2_8 := cell_below hb8 (cell_alloc (x2_7))
  have y0_8 := cell_below hb8 (cell_alloc (y0_7))
  have y1_8 := cell_below hb8 (cell_alloc (y1_7))
  have y2_8 := cell_below hb8 (cell_alloc (y2_7))
  have op0_8 := cell_below hb8 (cell_alloc (op0_7))
  have op1_8 := cell_below hb8 (cell_alloc (op1_7))
  have p0_8 := cell_below hb8 (cell_alloc (p0_7))
  have p1_8 := cell_below hb8 (cell_alloc (p1_7))
  have p2_8 := cell_below hb8 (cell_alloc (p2_7))
  have q0_8 := cell_below hb8 (cell_alloc (q0_7))
  have q1_8 := cell_below hb8 (cell_alloc (q1_7))
  have q2_8 := cell_below hb8 (cell_alloc (q2_7))
  have p20_8 := cell_below hb8 (cell_alloc (p20_7))
  have p21_8 := cell_below hb8 (cell_alloc (p21_7))
  have p22_8 := cell_below hb8 (cell_alloc (p22_7))
  have q20_8 := cell_below hb8 (a := ⟨w7.heap.size, 0, none⟩) (v := .int .i64 rm.k) (by simp [go_sem])
  have q21_8 := cell_below hb8 (a := ⟨w7.heap.size, 1, none⟩) (v := .int .i64 rm.i) (by simp [go_sem])
  have q22_8 := cell_below hb8 (a := ⟨w7.heap.size, 2, none⟩) (v := .string rm.s) (by simp [go_sem])
  have B8 := later (B7.alloc B7.size _) hb8
  have hz_x0_8 := lt_of_cell x0_8
  have hz_y0_8 := lt_of_cell y0_8
  have hz_op0_8 := lt_of_cell op0_8
  have hz_p0_8 := lt_of_cell p0_8
  have hz_q0_8 := lt_of_cell q0_8
  have hz_p20_8 := lt_of_cell p20_8
  have hz_q20_8 := lt_of_cell q20_8
  clear x0_7 x1_7 x2_7 y0_7 y1_7 y2_7 op0_7 op1_7 p0_7 p1_7 p2_7 q0_7 q1_7 q2_7 p20_7 p21_7 p22_7 hz_x0_7 hz_y0_7 hz_op0_7 hz_p0_7 hz_q0_7 hz_p20_7
  go_wp2_with fail
  refine (cQ _).mono ?_
  rintro e w9 ⟨rfl, hb9⟩
  have x0_9 := cell_below hb9 (cell_alloc (x0_8))
  have x1_9 := cell_below hb9 (cell_alloc (x1_8))
  have x2_9 := cell_below hb9 (cell_alloc (x2_8))
  have y0_9 := cell_below hb9 (cell_alloc (y0_8))
  have y1_9 := cell_below hb9 (cell_alloc (y1_8))
  have y2_9 := cell_below hb9 (cell_alloc (y2_8))
  have op0_9 := cell_below hb9 (cell_alloc (op0_8))
  have op1_9 := cell_below hb9 (cell_alloc (op1_8))
  have p0_9 := cell_below hb9 (cell_alloc (p0_8))
  have p1_9 := cell_below hb9 (cell_alloc (p1_8))
  have p2_9 := cell_below hb9 (cell_alloc (p2_8))
  have q0_9 := cell_below hb9 (cell_alloc (q0_8))
  have q1_9 := cell_below hb9 (cell_alloc (q1_8))
  have q2_9 := cell_below hb9 (cell_alloc (q2_8))
  have p20_9 := cell_below hb9 (cell_alloc (p20_8))
  have p21_9 := cell_below hb9 (cell_alloc (p21_8))
  have p22_9 := cell_below hb9 (cell_alloc (p22_8))
  have q20_9 := cell_below hb9 (cell_alloc (q20_8))
  have q21_9 := cell_below hb9 (cell_alloc (q21_8))
  have q22_9 := cell_below hb9 (cell_alloc (q22_8))
  have s0_9 := cell_below hb9 (a := ⟨w8.heap.size, 0, none⟩) (v := .int .i64 0) (by simp [go_sem])
  have s1_9 := cell_below hb9 (a := ⟨w8.heap.size, 1, none⟩) (v := .int .i64 0) (by simp [go_sem])
  have s2_9 := cell_below hb9 (a := ⟨w8.heap.size, 2, none⟩) (v := .string ⟨#[]⟩) (by simp [go_sem])
  have B9 := later (B8.alloc B8.size _) hb9
  have hz_x0_9 := lt_of_cell x0_9
  have hz_y0_9 := lt_of_cell y0_9
  have hz_op0_9 := lt_of_cell op0_9
  have hz_p0_9 := lt_of_cell p0_9
  have hz_q0_9 := lt_of_cell q0_9
  have hz_p20_9 := lt_of_cell p20_9
  have hz_q20_9 := lt_of_cell q20_9
  have hz_s0_9 := lt_of_cell s0_9
  clear x0_8 x1_8 x2_8 y0_8 y1_8 y2_8 op0_8 op1_8 p0_8 p1_8 p2_8 q0_8 q1_8 q2_8 p20_8 p21_8 p22_8 q20_8 q21_8 q22_8 hz_x0_8 hz_y0_8 hz_op0_8 hz_p0_8 hz_q0_8 hz_p20_8 hz_q20_8
  go_wp2_with fail
  refine (cR _).mono ?_
  rintro e w10 ⟨rfl, hb10⟩
  have x0_10 := cell_below hb10 (cell_alloc (x0_9))
  have x1_10 := cell_below hb10 (cell_alloc (x1_9))
  have x2_10 := cell_below hb10 (cell_alloc (x2_9))
  have y0_10 := cell_below hb10 (cell_alloc (y0_9))
  have y1_10 := cell_below hb10 (cell_alloc (y1_9))
  have y2_10 := cell_below hb10 (cell_alloc (y2_9))
  have op0_10 := cell_below hb10 (cell_alloc (op0_9))
  have op1_10 := cell_below hb10 (cell_alloc (op1_9))
  have p0_10 := cell_below hb10 (cell_alloc (p0_9))
  have p1_10 := cell_below hb10 (cell_alloc (p1_9))
  have p2_10 := cell_below hb10 (cell_alloc (p2_9))
  have q0_10 := cell_below hb10 (cell_alloc (q0_9))
  have q1_10 := cell_below hb10 (cell_alloc (q1_9))
  have q2_10 := cell_below hb10 (cell_alloc (q2_9))
  have p20_10 := cell_below hb10 (cell_alloc (p20_9))
  have p21_10 := cell_below hb10 (cell_alloc (p21_9))
  have p22_10 := cell_below hb10 (cell_alloc (p22_9))
  have q20_10 := cell_below hb10 (cell_alloc (q20_9))
  have q21_10 := cell_below hb10 (cell_alloc (q21_9))
  have q22_10 := cell_below hb10 (cell_alloc (q22_9))
  have s0_10 := cell_below hb10 (cell_alloc (s0_9))
  have s1_10 := cell_below hb10 (cell_alloc (s1_9))
  have s2_10 := cell_below hb10 (cell_alloc (s2_9))
  have qu0_10 := cell_below hb10 (a := ⟨w9.heap.size, 0, none⟩) (v := .int .i64 0) (by simp [go_sem])
  have qu1_10 := cell_below hb10 (a := ⟨w9.heap.size, 1, none⟩) (v := .int .i64 0) (by simp [go_sem])
  have qu2_10 := cell_below hb10 (a := ⟨w9.heap.size, 2, none⟩) (v := .string ⟨#[]⟩) (by simp [go_sem])
  have B10 := later (B9.alloc B9.size _) hb10
  have hz_x0_10 := lt_of_cell x0_10
  have hz_y0_10 := lt_of_cell y0_10
  have hz_op0_10 := lt_of_cell op0_10
  have hz_p0_10 := lt_of_cell p0_10
  have hz_q0_10 := lt_of_cell q0_10
  have hz_p20_10 := lt_of_cell p20_10
  have hz_q20_10 := lt_of_cell q20_10
  have hz_s0_10 := lt_of_cell s0_10
  have hz_qu0_10 := lt_of_cell qu0_10
  clear x0_9 x1_9 x2_9 y0_9 y1_9 y2_9 op0_9 op1_9 p0_9 p1_9 p2_9 q0_9 q1_9 q2_9 p20_9 p21_9 p22_9 q20_9 q21_9 q22_9 s0_9 s1_9 s2_9 hz_x0_9 hz_y0_9 hz_op0_9 hz_p0_9 hz_q0_9 hz_p20_9 hz_q20_9 hz_s0_9
  go_wp2
  go_returns
  exact Rets.bool rfl (B10.alloc B10.size _)

set_option maxRecDepth 100000 in
set_option maxHeartbeats 4000000 in
theorem turns_s0_q1 (a b : Int) (w : World) (ha : I64 a) (hb : I64 b) (hm : SomeMax w) (hs : fits (a + b) = false) (h0 : b ≠ 0) (hf : fits (a.tdiv b) = false) : Calls Tryd.prog 4 #[.int .i64 a, .int .i64 b] w (Rets (.bool true) w) := by
  have cL := live_true w hm
  have cNa := fun W => ref_Int1 a W
  have cNb := fun W => ref_Int1 b W
  obtain ⟨⟨rm, em⟩, hmm⟩ : ∃ r, arithS [42] (GV.num a) (GV.num b) = r := ⟨_, rfl⟩
  have hp : arithS [43] (GV.num a) (GV.num b) = (GV.none, 30) := by rw [arith_add, hs]; rfl
  have hb1 := quo_least ha h0 hf
  have hq : arithS [47] (GV.num a) (GV.num b) = (GV.none, 30) := by rw [arith_quo a b h0, hf]; rfl
  have hr := arith_rem a b h0
  have cP1 := contract_arith 43 _ _ _ _ hp ha hb
  have cP2 := contract_arith 43 _ _ _ _ ((arith_add_comm b a).trans hp) hb ha
  have cM1 := contract_arith 42 _ _ _ _ hmm ha hb
  have cM2 := contract_arith 42 _ _ _ _ ((arith_mul_comm b a).trans hmm) hb ha
  have cQ := contract_arith 47 _ _ _ _ hq ha hb
  have cR := contract_arith 37 _ _ _ _ hr ha hb
  simp only [GV.val, GV.num, GV.none] at cNa cNb cP1 cP2 cM1 cM2 cQ cR 
  clear hmm hp hq hr ha hb hm
  have hb0 : (b == 0) = false := beq_eq_false_iff_ne.2 h0
  have hbm : (b == -1) = true := beq_iff_eq.2 hb1
  generalize a.tmod b = rmd at *
  clear h0 hs hf hb1
  go_enter Tryd.func4, Tryd.ntmps4
  go_wp2_with fail
  refine (cL).mono ?_
  rintro e w1 ⟨rfl, hb1⟩
  have B1 := later (Below.refl _ _) hb1
  go_wp2_with fail
  refine (cNa _).mono ?_
  rintro e w2 ⟨rfl, hb2⟩
  have B2 := later B1 hb2
  go_wp2_with fail
  refine (cNb _).mono ?_
  rintro e w3 ⟨rfl, hb3⟩
  have x0_3 := cell_below hb3 (a := ⟨w2.heap.size, 0, none⟩) (v := .int .i64 2) (by simp [go_sem])
  have x1_3 := cell_below hb3 (a := ⟨w2.heap.size, 1, none⟩) (v := .int .i64 a) (by simp [go_sem])
  have x2_3 := cell_below hb3 (a := ⟨w2.heap.size, 2, none⟩) (v := .string ⟨#[]⟩) (by simp [go_sem])
  have B3 := later (B2.alloc B2.size _) hb3
  have hz_x0_3 := lt_of_cell x0_3
  go_wp2_with fail
  refine wp_loop_rounds 3 ?_
  rw [rounds_succ]
  go_wp2_with fail
  refine (cP1 _).mono ?_
  rintro e w4 ⟨rfl, hb4⟩
  have x0_4 := cell_below hb4 (cell_alloc (cell_alloc (x0_3)))
  have x1_4 := cell_below hb4 (cell_alloc (cell_alloc (x1_3)))
  have x2_4 := cell_below hb4 (cell_alloc (cell_alloc (x2_3)))
  have y0_4 := cell_below hb4 (a := ⟨w3.heap.size, 0, none⟩) (v := .int .i64 2) (by simp [go_sem])
  have y1_4 := cell_below hb4 (a := ⟨w3.heap.size, 1, none⟩) (v := .int .i64 b) (by simp [go_sem])
  have y2_4 := cell_below hb4 (a := ⟨w3.heap.size, 2, none⟩) (v := .string ⟨#[]⟩) (by simp [go_sem])
  have op0_4 := cell_below hb4 (a := ⟨w3.heap.size + 1, 0, none⟩) (v := .string ⟨#[43]⟩) (by simp [go_sem])
  have op1_4 := cell_below hb4 (a := ⟨w3.heap.size + 1, 1, none⟩) (v := .string ⟨#[42]⟩) (by simp [go_sem])
  have B4 := later ((B3.alloc B3.size _).alloc (B3.alloc B3.size _).size _) hb4
  have hz_x0_4 := lt_of_cell x0_4
  have hz_y0_4 := lt_of_cell y0_4
  have hz_op0_4 := lt_of_cell op0_4
  clear x0_3 x1_3 x2_3 hz_x0_3
  go_wp2_with fail
  refine (cP2 _).mono ?_
  rintro e w5 ⟨rfl, hb5⟩
  have x0_5 := cell_below hb5 (cell_alloc (x0_4))
  have x1_5 := cell_below hb5 (cell_alloc (x1_4))
  have x2_5 := cell_below hb5 (cell_alloc (x2_4))
  have y0_5 := cell_below hb5 (cell_alloc (y0_4))
  have y1_5 := cell_below hb5 (cell_alloc (y1_4))
  have y2_5 := cell_below hb5 (cell_alloc (y2_4))
  have op0_5 := cell_below hb5 (cell_alloc (op0_4))
  have op1_5 := cell_below hb5 (cell_alloc (op1_4))
  have p0_5 := cell_below hb5 (a := ⟨w4.heap.size, 0, none⟩) (v := .int .i64 0) (by simp [go_sem])
  have p1_5 := cell_below hb5 (a := ⟨w4.heap.size, 1, none⟩) (v := .int .i64 0) (by simp [go_sem])
  have p2_5 := cell_below hb5 (a := ⟨w4.heap.size, 2, none⟩) (v := .string ⟨#[]⟩) (by simp [go_sem])
  have B5 := later (B4.alloc B4.size _) hb5
  have hz_x0_5 := lt_of_cell x0_5
  have hz_y0_5 := lt_of_cell y0_5
  have hz_op0_5 := lt_of_cell op0_5
  have hz_p0_5 := lt_of_cell p0_5
  clear x0_4 x1_4 x2_4 y0_4 y1_4 y2_4 op0_4 op1_4 hz_x0_4 hz_y0_4 hz_op0_4
  go_wp2_with fail
  rw [rounds_succ]
  go_wp2_with fail
  refine (cM1 _).mono ?_
  rintro e w6 ⟨rfl, hb6⟩
  have x0_6 := cell_below hb6 (cell_alloc (x0_5))
  have x1_6 := cell_below hb6 (cell_alloc (x1_5))
  have x2_6 := cell_below hb6 (cell_alloc (x2_5))
  have y0_6 := cell_below hb6 (cell_alloc (y0_5))
  have y1_6 := cell_below hb6 (cell_alloc (y1_5))
  have y2_6 := cell_below hb6 (cell_alloc (y2_5))
  have op0_6 := cell_below hb6 (cell_alloc (op0_5))
  have op1_6 := cell_below hb6 (cell_alloc (op1_5))
  have p0_6 := cell_below hb6 (cell_alloc (p0_5))
  have p1_6 := cell_below hb6 (cell_alloc (p1_5))
  have p2_6 := cell_below hb6 (cell_alloc (p2_5))
  have q0_6 := cell_below hb6 (a := ⟨w5.heap.size, 0, none⟩) (v := .int .i64 0) (by simp [go_sem])
  have q1_6 := cell_below hb6 (a := ⟨w5.heap.size, 1, none⟩) (v := .int .i64 0) (by simp [go_sem])
  have q2_6 := cell_below hb6 (a := ⟨w5.heap.size, 2, none⟩) (v := .string ⟨#[]⟩) (by simp [go_sem])
  have B6 := later (B5.alloc B5.size _) hb6
  have hz_x0_6 := lt_of_cell x0_6
  have hz_y0_6 := lt_of_cell y0_6
  have hz_op0_6 := lt_of_cell op0_6
  have hz_p0_6 := lt_of_cell p0_6
  have hz_q0_6 := lt_of_cell q0_6
  clear x0_5 x1_5 x2_5 y0_5 y1_5 y2_5 op0_5 op1_5 p0_5 p1_5 p2_5 hz_x0_5 hz_y0_5 hz_op0_5 hz_p0_5
  go_wp2_with fail
  refine (cM2 _).mono ?_
  rintro e w7 ⟨rfl, hb7⟩
  have x0_7 := cell_below hb7 (cell_alloc (x0_6))
  have x1_7 := cell_below hb7 (cell_alloc (x1_6))
  have x2_7 := cell_below hb7 (cell_alloc (x2_6))
  have y0_7 := cell_below hb7 (cell_alloc (y0_6))
  have y1_7 := cell_below hb7 (cell_alloc (y1_6))
  have y2_7 := cell_below hb7 (cell_alloc (y2_6))
  have op0_7 := cell_below hb7 (cell_alloc (op0_6))
  have op1_7 := cell_below hb7 (cell_alloc (op1_6))
  have p0_7 := cell_below hb7 (cell_alloc (p0_6))
  have p1_7 := cell_below hb7 (cell_alloc (p1_6))
  have p2_7 := cell_below hb7 (cell_alloc (p2_6))
  have q0_7 := cell_below hb7 (cell_alloc (q0_6))
  have q1_7 := cell_below hb7 (cell_alloc (q1_6))
  have q2_7 := cell_below hb7 (cell_alloc (q2_6))
  have p20_7 := cell_below hb7 (a := ⟨w6.heap.size, 0, none⟩) (v := .int .i64 rm.k) (by simp [go_sem])
  have p21_7 := cell_below hb7 (a := ⟨w6.heap.size, 1, none⟩) (v := .int .i64 rm.i) (by simp [go_sem])
  have p22_7 := cell_below hb7 (a := ⟨w6.heap.size, 2, none⟩) (v := .string rm.s) (by simp [go_sem])
  have B7 := later (B6.alloc B6.size _) hb7
  have hz_x0_7 := lt_of_cell x0_7
  have hz_y0_7 := lt_of_cell y0_7
  have hz_op0_7 := lt_of_cell op0_7
  have hz_p0_7 := lt_of_cell p0_7
  have hz_q0_7 := lt_of_cell q0_7
  have hz_p20_7 := lt_of_cell p20_7
  clear x0_6 x1_6 x2_6 y0_6 y1_6 y2_6 op0_6 op1_6 p0_6 p1_6 p2_6 q0_6 q1_6 q2_6 hz_x0_6 hz_y0_6 hz_op0_6 hz_p0_6 hz_q0_6
  go_wp2_with fail
  rw [rounds_succ]
  go_wp2_with fail
  refine (cP1 _).mono ?_
  rintro e w8 ⟨rfl, hb8⟩
  have x0_8 := cell_below hb8 (cell_alloc (x0_7))
  have x1_8 := cell_below hb8 (cell_alloc (x1_7))
  have x2_8 := cell_below hb8 (cell_alloc (x2_7))
  have y0_8 := cell_below hb8 (cell_alloc (y0_7))
  have y1_8 := cell_below hb8 (cell_alloc (y1_7))
  have y2_8 := cell_below hb8 (cell_alloc (y2_7))
  have op0_8 := cell_below hb8 (cell_alloc (op0_7))
  have op1_8 := cell_below hb8 (cell_alloc (op1_7))
  have p0_8 := cell_below hb8 (cell_alloc (p0_7))
  have p1_8 := cell_below hb8 (cell_alloc (p1_7))
  have p2_8 := cell_below hb8 (cell_alloc (p2_7))
  have q0_8 := cell_below hb8 (cell_alloc (q0_7))
  have q1_8 := cell_below hb8 (cell_alloc (q1_7))
  have q2_8 := cell_below hb8 (cell_alloc (q2_7))
  have p20_8 := cell_below hb8 (cell_alloc (p20_7))
  have p21_8 := cell_below hb8 (cell_alloc (p21_7))
  have p22_8 := cell_below hb8 (cell_alloc (p22_7))
  have q20_8 := cell_below hb8 (a := ⟨w7.heap.size, 0, none⟩) (v := .int .i64 rm.k) (by simp [go_sem])
  have q21_8 := cell_below hb8 (a := ⟨w7.heap.size, 1, none⟩) (v := .int .i64 rm.i) (by simp [go_sem])
  have q22_8 := cell_below hb8 (a := ⟨w7.heap.size, 2, none⟩) (v := .string rm.s) (by simp [go_sem])
  have B8 := later (B7.alloc B7.size _) hb8
  have hz_x0_8 := lt_of_cell x0_8
  have hz_y0_8 := lt_of_cell y0_8
  have hz_op0_8 := lt_of_cell op0_8
  have hz_p0_8 := lt_of_cell p0_8
  have hz_q0_8 := lt_of_cell q0_8
  have hz_p20_8 := lt_of_cell p20_8
  have hz_q20_8 := lt_of_cell q20_8
  clear x0_7 x1_7 x2_7 y0_7 y1_7 y2_7 op0_7 op1_7 p0_7 p1_7 p2_7 q0_7 q1_7 q2_7 p20_7 p21_7 p22_7 hz_x0_7 hz_y0_7 hz_op0_7 hz_p0_7 hz_q0_7 hz_p20_7
  go_wp2_with fail
  refine (cQ _).mono ?_
  rintro e w9 ⟨rfl, hb9⟩
  have x0_9 := cell_below hb9 (cell_alloc (x0_8))
  have x1_9 := cell_below hb9 (cell_alloc (x1_8))
  have x2_9 := cell_below hb9 (cell_alloc (x2_8))
  have y0_9 := cell_below hb9 (cell_alloc (y0_8))
  have y1_9 := cell_below hb9 (cell_alloc (y1_8))
  have y2_9 := cell_below hb9 (cell_alloc (y2_8))
  have op0_9 := cell_below hb9 (cell_alloc (op0_8))
  have op1_9 := cell_below hb9 (cell_alloc (op1_8))
  have p0_9 := cell_below hb9 (cell_alloc (p0_8))
  have p1_9 := cell_below hb9 (cell_alloc (p1_8))
  have p2_9 := cell_below hb9 (cell_alloc (p2_8))
  have q0_9 := cell_below hb9 (cell_alloc (q0_8))
  have q1_9 := cell_below hb9 (cell_alloc (q1_8))
  have q2_9 := cell_below hb9 (cell_alloc (q2_8))
  have p20_9 := cell_below hb9 (cell_alloc (p20_8))
  have p21_9 := cell_below hb9 (cell_alloc (p21_8))
  have p22_9 := cell_below hb9 (cell_alloc (p22_8))
  have q20_9 := cell_below hb9 (cell_alloc (q20_8))
  have q21_9 := cell_below hb9 (cell_alloc (q21_8))
  have q22_9 := cell_below hb9 (cell_alloc (q22_8))
  have s0_9 := cell_below hb9 (a := ⟨w8.heap.size, 0, none⟩) (v := .int .i64 0) (by simp [go_sem])
  have s1_9 := cell_below hb9 (a := ⟨w8.heap.size, 1, none⟩) (v := .int .i64 0) (by simp [go_sem])
  have s2_9 := cell_below hb9 (a := ⟨w8.heap.size, 2, none⟩) (v := .string ⟨#[]⟩) (by simp [go_sem])
  have B9 := later (B8.alloc B8.size _) hb9
  have hz_x0_9 := lt_of_cell x0_9
  have hz_y0_9 := lt_of_cell y0_9
  have hz_op0_9 := lt_of_cell op0_9
  have hz_p0_9 := lt_of_cell p0_9
  have hz_q0_9 := lt_of_cell q0_9
  have hz_p20_9 := lt_of_cell p20_9
  have hz_q20_9 := lt_of_cell q20_9
  have hz_s0_9 := lt_of_cell s0_9
  clear x0_8 x1_8 x2_8 y0_8 y1_8 y2_8 op0_8 op1_8 p0_8 p1_8 p2_8 q0_8 q1_8 q2_8 p20_8 p21_8 p22_8 q20_8 q21_8 q22_8 hz_x0_8 hz_y0_8 hz_op0_8 hz_p0_8 hz_q0_8 hz_p20_8 hz_q20_8
  go_wp2_with fail
  refine (cR _).mono ?_
  rintro e w10 ⟨rfl, hb10⟩
  have x0_10 := cell_below hb10 (cell_alloc (x0_9))
  have x1_10 := cell_below hb10 (cell_alloc (x1_9))
  have x2_10 := cell_below hb10 (cell_alloc (x2_9))
  have y0_10 := cell_below hb10 (cell_alloc (y0_9))
  have y1_10 := cell_below hb10 (cell_alloc (y1_9))
  have y2_10 := cell_below hb10 (cell_alloc (y2_9))
  have op0_10 := cell_below hb10 (cell_alloc (op0_9))
  have op1_10 := cell_below hb10 (cell_alloc (op1_9))
  have p0_10 := cell_below hb10 (cell_alloc (p0_9))
  have p1_10 := cell_below hb10 (cell_alloc (p1_9))
  have p2_10 := cell_below hb10 (cell_alloc (p2_9))
  have q0_10 := cell_below hb10 (cell_alloc (q0_9))
  have q1_10 := cell_below hb10 (cell_alloc (q1_9))
  have q2_10 := cell_below hb10 (cell_alloc (q2_9))
  have p20_10 := cell_below hb10 (cell_alloc (p20_9))
  have p21_10 := cell_below hb10 (cell_alloc (p21_9))
  have p22_10 := cell_below hb10 (cell_alloc (p22_9))
  have q20_10 := cell_below hb10 (cell_alloc (q20_9))
  have q21_10 := cell_below hb10 (cell_alloc (q21_9))
  have q22_10 := cell_below hb10 (cell_alloc (q22_9))
  have s0_10 := cell_below hb10 (cell_alloc (s0_9))
  have s1_10 := cell_below hb10 (cell_alloc (s1_9))
  have s2_10 := cell_below hb10 (cell_alloc (s2_9))
  have qu0_10 := cell_below hb10 (a := ⟨w9.heap.size, 0, none⟩) (v := .int .i64 0) (by simp [go_sem])
  have qu1_10 := cell_below hb10 (a := ⟨w9.heap.size, 1, none⟩) (v := .int .i64 0) (by simp [go_sem])
  have qu2_10 := cell_below hb10 (a := ⟨w9.heap.size, 2, none⟩) (v := .string ⟨#[]⟩) (by simp [go_sem])
  have B10 := later (B9.alloc B9.size _) hb10
  have hz_x0_10 := lt_of_cell x0_10
  have hz_y0_10 := lt_of_cell y0_10
  have hz_op0_10 := lt_of_cell op0_10
  have hz_p0_10 := lt_of_cell p0_10
  have hz_q0_10 := lt_of_cell q0_10
  have hz_p20_10 := lt_of_cell p20_10
  have hz_q20_10 := lt_of_cell q20_10
  have hz_s0_10 := lt_of_cell s0_10
  have hz_qu0_10 := lt_of_cell qu0_10
  clear x0_9 x1_9 x2_9 y0_9 y1_9 y2_9 op0_9 op1_9 p0_9 p1_9 p2_9 q0_9 q1_9 q2_9 p20_9 p21_9 p22_9 q20_9 q21_9 q22_9 s0_9 s1_9 s2_9 hz_x0_9 hz_y0_9 hz_op0_9 hz_p0_9 hz_q0_9 hz_p20_9 hz_q20_9 hz_s0_9
  go_wp2
  go_returns
  exact Rets.bool rfl (B10.alloc B10.size _)

set_option maxRecDepth 100000 in
set_option maxHeartbeats 4000000 in
theorem turns_s0_q2 (a b : Int) (w : World) (ha : I64 a) (hb : I64 b) (hm : SomeMax w) (hs : fits (a + b) = false) (h0 : b ≠ 0) (hf : fits (a.tdiv b) = true) : Calls Tryd.prog 4 #[.int .i64 a, .int .i64 b] w (Rets (.bool true) w) := by
  have cL := live_true w hm
  have cNa := fun W => ref_Int1 a W
  have cNb := fun W => ref_Int1 b W
  obtain ⟨⟨rm, em⟩, hmm⟩ : ∃ r, arithS [42] (GV.num a) (GV.num b) = r := ⟨_, rfl⟩
  have hp : arithS [43] (GV.num a) (GV.num b) = (GV.none, 30) := by rw [arith_add, hs]; rfl
  obtain ⟨quo, hquo⟩ : ∃ q, q = a.tdiv b := ⟨_, rfl⟩
  obtain ⟨rmd, hrmd⟩ : ∃ q, q = a.tmod b := ⟨_, rfl⟩
  have hq : arithS [47] (GV.num a) (GV.num b) = (GV.num quo, 0) := by rw [arith_quo a b h0, hf, hquo]; rfl
  have hr : arithS [37] (GV.num a) (GV.num b) = (GV.num rmd, 0) := by rw [hrmd]; exact arith_rem a b h0
  have HBACK : Hid (wrap64 (wrap64 (quo * b) + rmd) = a) := by rw [hquo, hrmd]; exact quo_back a b ha
  have HSIGN : Hid (rmd ≠ 0 → (decide (rmd < 0) == decide (a < 0)) = true) := by rw [hrmd]; exact rem_sign a b
  clear hquo hrmd
  have cP1 := contract_arith 43 _ _ _ _ hp ha hb
  have cP2 := contract_arith 43 _ _ _ _ ((arith_add_comm b a).trans hp) hb ha
  have cM1 := contract_arith 42 _ _ _ _ hmm ha hb
  have cM2 := contract_arith 42 _ _ _ _ ((arith_mul_comm b a).trans hmm) hb ha
  have cQ := contract_arith 47 _ _ _ _ hq ha hb
  have cR := contract_arith 37 _ _ _ _ hr ha hb
  simp only [GV.val, GV.num, GV.none] at cNa cNb cP1 cP2 cM1 cM2 cQ cR 
  clear hmm hp hq hr ha hb hm
  have hb0 : (b == 0) = false := beq_eq_false_iff_ne.2 h0
  clear h0 hs hf
  go_enter Tryd.func4, Tryd.ntmps4
  go_wp2_with fail
  refine (cL).mono ?_
  rintro e w1 ⟨rfl, hb1⟩
  have B1 := later (Below.refl _ _) hb1
  go_wp2_with fail
  refine (cNa _).mono ?_
  rintro e w2 ⟨rfl, hb2⟩
  have B2 := later B1 hb2
  go_wp2_with fail
  refine (cNb _).mono ?_
  rintro e w3 ⟨rfl, hb3⟩
  have x0_3 := cell_below hb3 (a := ⟨w2.heap.size, 0, none⟩) (v := .int .i64 2) (by simp [go_sem])
  have x1_3 := cell_below hb3 (a := ⟨w2.heap.size, 1, none⟩) (v := .int .i64 a) (by simp [go_sem])
  have x2_3 := cell_below hb3 (a := ⟨w2.heap.size, 2, none⟩) (v := .string ⟨#[]⟩) (by simp [go_sem])
  have B3 := later (B2.alloc B2.size _) hb3
  have hz_x0_3 := lt_of_cell x0_3
  go_wp2_with fail
  refine wp_loop_rounds 3 ?_
  rw [rounds_succ]
  go_wp2_with fail
  refine (cP1 _).mono ?_
  rintro e w4 ⟨rfl, hb4⟩
  have x0_4 := cell_below hb4 (cell_alloc (cell_alloc (x0_3)))
  have x1_4 := cell_below hb4 (cell_alloc (cell_alloc (x1_3)))
  have x2_4 := cell_below hb4 (cell_alloc (cell_alloc (x2_3)))
  have y0_4 := cell_below hb4 (a := ⟨w3.heap.size, 0, none⟩) (v := .int .i64 2) (by simp [go_sem])
  have y1_4 := cell_below hb4 (a := ⟨w3.heap.size, 1, none⟩) (v := .int .i64 b) (by simp [go_sem])
  have y2_4 := cell_below hb4 (a := ⟨w3.heap.size, 2, none⟩) (v := .string ⟨#[]⟩) (by simp [go_sem])
  have op0_4 := cell_below hb4 (a := ⟨w3.heap.size + 1, 0, none⟩) (v := .string ⟨#[43]⟩) (by simp [go_sem])
  have op1_4 := cell_below hb4 (a := ⟨w3.heap.size + 1, 1, none⟩) (v := .string ⟨#[42]⟩) (by simp [go_sem])
  have B4 := later ((B3.alloc B3.size _).alloc (B3.alloc B3.size _).size _) hb4
  have hz_x0_4 := lt_of_cell x0_4
  have hz_y0_4 := lt_of_cell y0_4
  have hz_op0_4 := lt_of_cell op0_4
  clear x0_3 x1_3 x2_3 hz_x0_3
  go_wp2_with fail
  refine (cP2 _).mono ?_
  rintro e w5 ⟨rfl, hb5⟩
  have x0_5 := cell_below hb5 (cell_alloc (x0_4))
  have x1_5 := cell_below hb5 (cell_alloc (x1_4))
  have x2_5 := cell_below hb5 (cell_alloc (x2_4))
  have y0_5 := cell_below hb5 (cell_alloc (y0_4))
  have y1_5 := cell_below hb5 (cell_alloc (y1_4))
  have y2_5 := cell_below hb5 (cell_alloc (y2_4))
  have op0_5 := cell_below hb5 (cell_alloc (op0_4))
  have op1_5 := cell_below hb5 (cell_alloc (op1_4))
  have p0_5 := cell_below hb5 (a := ⟨w4.heap.size, 0, none⟩) (v := .int .i64 0) (by simp [go_sem])
  have p1_5 := cell_below hb5 (a := ⟨w4.heap.size, 1, none⟩) (v := .int .i64 0) (by simp [go_sem])
  have p2_5 := cell_below hb5 (a := ⟨w4.heap.size, 2, none⟩) (v := .string ⟨#[]⟩) (by simp [go_sem])
  have B5 := later (B4.alloc B4.size _) hb5
  have hz_x0_5 := lt_of_cell x0_5
  have hz_y0_5 := lt_of_cell y0_5
  have hz_op0_5 := lt_of_cell op0_5
  have hz_p0_5 := lt_of_cell p0_5
  clear x0_4 x1_4 x2_4 y0_4 y1_4 y2_4 op0_4 op1_4 hz_x0_4 hz_y0_4 hz_op0_4
  go_wp2_with fail
  rw [rounds_succ]
  go_wp2_with fail
  refine (cM1 _).mono ?_
  rintro e w6 ⟨rfl, hb6⟩
  have x0_6 := cell_below hb6 (cell_alloc (x0_5))
  have x1_6 := cell_below hb6 (cell_alloc (x1_5))
  have x2_6 := cell_below hb6 (cell_alloc (x2_5))
  have y0_6 := cell_below hb6 (cell_alloc (y0_5))
  have y1_6 := cell_below hb6 (cell_alloc (y1_5))
  have y2_6 := cell_below hb6 (cell_alloc (y2_5))
  have op0_6 := cell_below hb6 (cell_alloc (op0_5))
  have op1_6 := cell_below hb6 (cell_alloc (op1_5))
  have p0_6 := cell_below hb6 (cell_alloc (p0_5))
  have p1_6 := cell_below hb6 (cell_alloc (p1_5))
  have p2_6 := cell_below hb6 (cell_alloc (p2_5))
  have q0_6 := cell_below hb6 (a := ⟨w5.heap.size, 0, none⟩) (v := .int .i64 0) (by simp [go_sem])
  have q1_6 := cell_below hb6 (a := ⟨w5.heap.size, 1, none⟩) (v := .int .i64 0) (by simp [go_sem])
  have q2_6 := cell_below hb6 (a := ⟨w5.heap.size, 2, none⟩) (v := .string ⟨#[]⟩) (by simp [go_sem])
  have B6 := later (B5.alloc B5.size _) hb6
  have hz_x0_6 := lt_of_cell x0_6
  have hz_y0_6 := lt_of_cell y0_6
  have hz_op0_6 := lt_of_cell op0_6
  have hz_p0_6 := lt_of_cell p0_6
  have hz_q0_6 := lt_of_cell q0_6
  clear x0_5 x1_5 x2_5 y0_5 y1_5 y2_5 op0_5 op1_5 p0_5 p1_5 p2_5 hz_x0_5 hz_y0_5 hz_op0_5 hz_p0_5
  go_wp2_with fail
  refine (cM2 _).mono ?_
  rintro e w7 ⟨rfl, hb7⟩
  have x0_7 := cell_below hb7 (cell_alloc (x0_6))
  have x1_7 := cell_below hb7 (cell_alloc (x1_6))
  have x2_7 := cell_below hb7 (cell_alloc (x2_6))
  have y0_7 := cell_below hb7 (cell_alloc (y0_6))
  have y1_7 := cell_below hb7 (cell_alloc (y1_6))
  have y2_7 := cell_below hb7 (cell_alloc (y2_6))
  have op0_7 := cell_below hb7 (cell_alloc (op0_6))
  have op1_7 := cell_below hb7 (cell_alloc (op1_6))
  have p0_7 := cell_below hb7 (cell_alloc (p0_6))
  have p1_7 := cell_below hb7 (cell_alloc (p1_6))
  have p2_7 := cell_below hb7 (cell_alloc (p2_6))
  have q0_7 := cell_below hb7 (cell_alloc (q0_6))
  have q1_7 := cell_below hb7 (cell_alloc (q1_6))
  have q2_7 := cell_below hb7 (cell_alloc (q2_6))
  have p20_7 := cell_below hb7 (a := ⟨w6.heap.size, 0, none⟩) (v := .int .i64 rm.k) (by simp [go_sem])
  have p21_7 := cell_below hb7 (a := ⟨w6.heap.size, 1, none⟩) (v := .int .i64 rm.i) (by simp [go_sem])
  have p22_7 := cell_below hb7 (a := ⟨w6.heap.size, 2, none⟩) (v := .string rm.s) (by simp [go_sem])
  have B7 := later (B6.alloc B6.size _) hb7
  have hz_x0_7 := lt_of_cell x0_7
  have hz_y0_7 := lt_of_cell y0_7
  have hz_op0_7 := lt_of_cell op0_7
  have hz_p0_7 := lt_of_cell p0_7
  have hz_q0_7 := lt_of_cell q0_7
  have hz_p20_7 := lt_of_cell p20_7
  clear x0_6 x1_6 x2_6 y0_6 y1_6 y2_6 op0_6 op1_6 p0_6 p1_6 p2_6 q0_6 q1_6 q2_6 hz_x0_6 hz_y0_6 hz_op0_6 hz_p0_6 hz_q0_6
  go_wp2_with fail
  rw [rounds_succ]
  go_wp2_with fail
  refine (cP1 _).mono ?_
  rintro e w8 ⟨rfl, hb8⟩
  have x0_8 := cell_below hb8 (cell_alloc (x0_7))
  have x1_8 := cell_below hb8 (cell_alloc (x1_7))
  have x2_8 := cell_below hb8 (cell_alloc (x2_7))
  have y0_8 := cell_below hb8 (cell_alloc (y0_7))
  have y1_8 := cell_below hb8 (cell_alloc (y1_7))
  have y2_8 := cell_below hb8 (cell_alloc (y2_7))
  have op0_8 := cell_below hb8 (cell_alloc (op0_7))
  have op1_8 := cell_below hb8 (cell_alloc (op1_7))
  have p0_8 := cell_below hb8 (cell_alloc (p0_7))
  have p1_8 := cell_below hb8 (cell_alloc (p1_7))
  have p2_8 := cell_below hb8 (cell_alloc (p2_7))
  have q0_8 := cell_below hb8 (cell_alloc (q0_7))
  have q1_8 := cell_below hb8 (cell_alloc (q1_7))
  have q2_8 := cell_below hb8 (cell_alloc (q2_7))
  have p20_8 := cell_below hb8 (cell_alloc (p20_7))
  have p21_8 := cell_below hb8 (cell_alloc (p21_7))
  have p22_8 := cell_below hb8 (cell_alloc (p22_7))
  have q20_8 := cell_below hb8 (a := ⟨w7.heap.size, 0, none⟩) (v := .int .i64 rm.k) (by simp [go_sem])
  have q21_8 := cell_below hb8 (a := ⟨w7.heap.size, 1, none⟩) (v := .int .i64 rm.i) (by simp [go_sem])
  have q22_8 := cell_below hb8 (a := ⟨w7.heap.size, 2, none⟩) (v := .string rm.s) (by simp [go_sem])
  have B8 := later (B7.alloc B7.size _) hb8
  have hz_x0_8 := lt_of_cell x0_8
  have hz_y0_8 := lt_of_cell y0_8
  have hz_op0_8 := lt_of_cell op0_8
  have hz_p0_8 := lt_of_cell p0_8
  have hz_q0_8 := lt_of_cell q0_8
  have hz_p20_8 := lt_of_cell p20_8
  have hz_q20_8 := lt_of_cell q20_8
  clear x0_7 x1_7 x2_7 y0_7 y1_7 y2_7 op0_7 op1_7 p0_7 p1_7 p2_7 q0_7 q1_7 q2_7 p20_7 p21_7 p22_7 hz_x0_7 hz_y0_7 hz_op0_7 hz_p0_7 hz_q0_7 hz_p20_7
  go_wp2_with fail
  refine (cQ _).mono ?_
  rintro e w9 ⟨rfl, hb9⟩
  have x0_9 := cell_below hb9 (cell_alloc (x0_8))
  have x1_9 := cell_below hb9 (cell_alloc (x1_8))
  have x2_9 := cell_below hb9 (cell_alloc (x2_8))
  have y0_9 := cell_below hb9 (cell_alloc (y0_8))
  have y1_9 := cell_below hb9 (cell_alloc (y1_8))
  have y2_9 := cell_below hb9 (cell_alloc (y2_8))
  have op0_9 := cell_below hb9 (cell_alloc (op0_8))
  have op1_9 := cell_below hb9 (cell_alloc (op1_8))
  have p0_9 := cell_below hb9 (cell_alloc (p0_8))
  have p1_9 := cell_below hb9 (cell_alloc (p1_8))
  have p2_9 := cell_below hb9 (cell_alloc (p2_8))
  have q0_9 := cell_below hb9 (cell_alloc (q0_8))
  have q1_9 := cell_below hb9 (cell_alloc (q1_8))
  have q2_9 := cell_below hb9 (cell_alloc (q2_8))
  have p20_9 := cell_below hb9 (cell_alloc (p20_8))
  have p21_9 := cell_below hb9 (cell_alloc (p21_8))
  have p22_9 := cell_below hb9 (cell_alloc (p22_8))
  have q20_9 := cell_below hb9 (cell_alloc (q20_8))
  have q21_9 := cell_below hb9 (cell_alloc (q21_8))
  have q22_9 := cell_below hb9 (cell_alloc (q22_8))
  have s0_9 := cell_below hb9 (a := ⟨w8.heap.size, 0, none⟩) (v := .int .i64 0) (by simp [go_sem])
  have s1_9 := cell_below hb9 (a := ⟨w8.heap.size, 1, none⟩) (v := .int .i64 0) (by simp [go_sem])
  have s2_9 := cell_below hb9 (a := ⟨w8.heap.size, 2, none⟩) (v := .string ⟨#[]⟩) (by simp [go_sem])
  have B9 := later (B8.alloc B8.size _) hb9
  have hz_x0_9 := lt_of_cell x0_9
  have hz_y0_9 := lt_of_cell y0_9
  have hz_op0_9 := lt_of_cell op0_9
  have hz_p0_9 := lt_of_cell p0_9
  have hz_q0_9 := lt_of_cell q0_9
  have hz_p20_9 := lt_of_cell p20_9
  have hz_q20_9 := lt_of_cell q20_9
  have hz_s0_9 := lt_of_cell s0_9
  clear x0_8 x1_8 x2_8 y0_8 y1_8 y2_8 op0_8 op1_8 p0_8 p1_8 p2_8 q0_8 q1_8 q2_8 p20_8 p21_8 p22_8 q20_8 q21_8 q22_8 hz_x0_8 hz_y0_8 hz_op0_8 hz_p0_8 hz_q0_8 hz_p20_8 hz_q20_8
  go_wp2_with fail
  refine (cR _).mono ?_
  rintro e w10 ⟨rfl, hb10⟩
  have x0_10 := cell_below hb10 (cell_alloc (x0_9))
  have x1_10 := cell_below hb10 (cell_alloc (x1_9))
  have x2_10 := cell_below hb10 (cell_alloc (x2_9))
  have y0_10 := cell_below hb10 (cell_alloc (y0_9))
  have y1_10 := cell_below hb10 (cell_alloc (y1_9))
  have y2_10 := cell_below hb10 (cell_alloc (y2_9))
  have op0_10 := cell_below hb10 (cell_alloc (op0_9))
  have op1_10 := cell_below hb10 (cell_alloc (op1_9))
  have p0_10 := cell_below hb10 (cell_alloc (p0_9))
  have p1_10 := cell_below hb10 (cell_alloc (p1_9))
  have p2_10 := cell_below hb10 (cell_alloc (p2_9))
  have q0_10 := cell_below hb10 (cell_alloc (q0_9))
  have q1_10 := cell_below hb10 (cell_alloc (q1_9))
  have q2_10 := cell_below hb10 (cell_alloc (q2_9))
  have p20_10 := cell_below hb10 (cell_alloc (p20_9))
  have p21_10 := cell_below hb10 (cell_alloc (p21_9))
  have p22_10 := cell_below hb10 (cell_alloc (p22_9))
  have q20_10 := cell_below hb10 (cell_alloc (q20_9))
  have q21_10 := cell_below hb10 (cell_alloc (q21_9))
  have q22_10 := cell_below hb10 (cell_alloc (q22_9))
  have s0_10 := cell_below hb10 (cell_alloc (s0_9))
  have s1_10 := cell_below hb10 (cell_alloc (s1_9))
  have s2_10 := cell_below hb10 (cell_alloc (s2_9))
  have qu0_10 := cell_below hb10 (a := ⟨w9.heap.size, 0, none⟩) (v := .int .i64 2) (by simp [go_sem])
  have qu1_10 := cell_below hb10 (a := ⟨w9.heap.size, 1, none⟩) (v := .int .i64 quo) (by simp [go_sem])
  have qu2_10 := cell_below hb10 (a := ⟨w9.heap.size, 2, none⟩) (v := .string ⟨#[]⟩) (by simp [go_sem])
  have B10 := later (B9.alloc B9.size _) hb10
  have hz_x0_10 := lt_of_cell x0_10
  have hz_y0_10 := lt_of_cell y0_10
  have hz_op0_10 := lt_of_cell op0_10
  have hz_p0_10 := lt_of_cell p0_10
  have hz_q0_10 := lt_of_cell q0_10
  have hz_p20_10 := lt_of_cell p20_10
  have hz_q20_10 := lt_of_cell q20_10
  have hz_s0_10 := lt_of_cell s0_10
  have hz_qu0_10 := lt_of_cell qu0_10
  clear x0_9 x1_9 x2_9 y0_9 y1_9 y2_9 op0_9 op1_9 p0_9 p1_9 p2_9 q0_9 q1_9 q2_9 p20_9 p21_9 p22_9 q20_9 q21_9 q22_9 s0_9 s1_9 s2_9 hz_x0_9 hz_y0_9 hz_op0_9 hz_p0_9 hz_q0_9 hz_p20_9 hz_q20_9 hz_s0_9
  by_cases hz : rmd = 0
  · have hz' : (rmd == 0) = true := beq_iff_eq.2 hz
    have he : (a == wrap64 (wrap64 (quo * b) + rmd)) = true := beq_iff_eq.2 HBACK.out.symm
    clear hz
    go_wp2
    go_returns
    exact Rets.bool rfl (B10.alloc B10.size _)
  · have hz' : (rmd == 0) = false := beq_eq_false_iff_ne.2 hz
    have he : (a == wrap64 (wrap64 (quo * b) + rmd)) = true := beq_iff_eq.2 HBACK.out.symm
    have hg := HSIGN.out hz
    clear hz
    go_wp2
    go_returns
    exact Rets.bool rfl (B10.alloc B10.size _)

theorem turns_any (a b : Int) (w : World) (ha : I64 a) (hb : I64 b) (hm : SomeMax w) : Calls Tryd.prog 4 #[.int .i64 a, .int .i64 b] w (Rets (.bool true) w) := by
  cases hs : fits (a + b) with
  | true =>
    by_cases h0 : b = 0
    · exact turns_s1_q0 a b w ha hb hm hs h0
    · cases hf : fits (a.tdiv b) with
      | false => exact turns_s1_q1 a b w ha hb hm hs h0 hf
      | true => exact turns_s1_q2 a b w ha hb hm hs h0 hf
  | false =>
    by_cases h0 : b = 0
    · exact turns_s0_q0 a b w ha hb hm hs h0
    · cases hf : fits (a.tdiv b) with
      | false => exact turns_s0_q1 a b w ha hb hm hs h0 hf
      | true => exact turns_s0_q2 a b w ha hb hm hs h0 hf
end Go.Proofs.YtddnkjeogidfcaaDoor
