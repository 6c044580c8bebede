/-  The law's own examples: live answers true. -/
import Derived.Test.YtddnkjeogidfcaaDoorCallFn
namespace Go.Proofs.YtddnkjeogidfcaaDoor
open Go.RowKit Go.Shelf Go

theorem SomeMax.later {w W w1 : World} (h : SomeMax w) (hb : Below w.heap.size w W) (h2 : Below W.heap.size W w1) : SomeMax w1 := h.below (Go.Proofs.YtddnkjeogidfcaaDoor.later hb h2)

theorem lit_arith : arithS (⟨#[47]⟩ : ByteArray).toList (GV.num (-7)) (GV.num 2) = (GV.num (-3), 0) := by
  rw [Go.ByteArray.toList_eq]
  unfold arithS
  rw [num_ok, num_ok]
  decide
theorem lit_substr : substrS (GV.text ⟨#[97, 98, 99, 100]⟩) 0 2 = (GV.text ⟨#[97]⟩, 0) := by
  unfold substrS
  rw [if_neg (by decide), if_pos (by decide), if_neg (by decide)]
  rfl
theorem lit_instr : instrS (GV.text ⟨#[97, 98, 99]⟩) (GV.text ⟨#[99]⟩) = (GV.num 3, 0) := by
  have h : Lib.index ([97, 98, 99] : List UInt8) [99] = 2 := by decide
  unfold instrS GV.text
  simp only [h]; rfl
theorem lit_join : joinS (GV.text ⟨#[97]⟩) (GV.text ⟨#[98]⟩) = (GV.text ⟨#[97, 98]⟩, 0) := by
  unfold joinS
  rw [text_ok, text_ok]
  rfl

set_option maxHeartbeats 2000000 in
theorem live_true (w : World) (hm : SomeMax w) : Calls Tryd.prog 8 #[] w (Rets (.bool true) w) := by
  have cA := fun W => scalar_Arith ⟨#[47]⟩ (GV.num (-7)) (GV.num 2) W (by unfold GV.num I64; simp) (by unfold GV.num I64; simp)
  rw [lit_arith] at cA
  have cS := fun v W (hv : VS W v [GV.text ⟨#[97, 98, 99, 100]⟩, GV.num 0, GV.num 2]) (h : SomeMax W) => call_substr ⟨#[97, 98, 99, 100]⟩ 0 2 v W hv h (by unfold I64; simp) (by unfold I64; simp) (by decide)
  rw [lit_substr] at cS
  have cI := fun v W (hv : VS W v [GV.text ⟨#[97, 98, 99]⟩, GV.text ⟨#[99]⟩]) (h : SomeMax W) => call_instr ⟨#[97, 98, 99]⟩ ⟨#[99]⟩ v W hv h (by decide)
  rw [lit_instr] at cI
  have cJ := fun W => scalar_Join (GV.text ⟨#[97]⟩) (GV.text ⟨#[98]⟩) W (by unfold GV.text I64; simp) (by unfold GV.text I64; simp) (by decide)
  rw [lit_join] at cJ
  have cN := fun n W => ref_Int1 n W
  have cT := fun t W => ref_Text1 t W
  have cR := fun W => arity_of ⟨#[99, 111, 97, 108, 101, 115, 99, 101]⟩ W 1 (-1) true (by rw [Go.ByteArray.toList_eq]; decide)
  unfold bSubstr at cS
  unfold bInstr at cI
  simp only [GV.val, GV.num, GV.text] at cA cS cI cJ cN cT
  go_enter Tryd.func8, Tryd.ntmps8
  go_wp2_with fail
  refine (cN (-7) _).mono ?_
  rintro e w1 ⟨rfl, hb1⟩
  have B1 := later (Below.refl _ _) hb1
  go_wp2_with fail
  refine (cN 2 _).mono ?_
  rintro e w2 ⟨rfl, hb2⟩
  have B2 := later B1 hb2
  go_wp2_with fail
  refine (cA _).mono ?_
  rintro e w3 ⟨rfl, hb3⟩
  have B3 := later B2 hb3
  go_wp2_with fail
  refine (cT ⟨#[97, 98, 99, 100]⟩ _).mono ?_
  rintro e w4 ⟨rfl, hb4⟩
  have B4 := later (B3.alloc B3.size _) hb4
  have x_40 := cell_below hb4 (a := ⟨w3.heap.size, 0, none⟩) (v := .int .i64 2) (by simp [go_sem])
  have x_41 := cell_below hb4 (a := ⟨w3.heap.size, 1, none⟩) (v := .int .i64 (-3)) (by simp [go_sem])
  have x_42 := cell_below hb4 (a := ⟨w3.heap.size, 2, none⟩) (v := .string ⟨#[]⟩) (by simp [go_sem])
  go_wp2_with fail
  refine (cN 0 _).mono ?_
  rintro e w5 ⟨rfl, hb5⟩
  have B5 := later B4 hb5
  have x_50 := cell_below hb5 (x_40)
  have x_51 := cell_below hb5 (x_41)
  have x_52 := cell_below hb5 (x_42)
  clear x_40 x_41 x_42
  go_wp2_with fail
  refine (cN 2 _).mono ?_
  rintro e w6 ⟨rfl, hb6⟩
  have B6 := later B5 hb6
  have x_60 := cell_below hb6 (x_50)
  have x_61 := cell_below hb6 (x_51)
  have x_62 := cell_below hb6 (x_52)
  clear x_50 x_51 x_52
  go_wp2_with fail
  refine (cS _ _ (VS.made [GV.text ⟨#[97, 98, 99, 100]⟩, GV.num 0, GV.num 2] (by first | (with_reducible rfl) | simp | simp [go_sem]) rfl rfl (by simp)) (hm.below (B6.alloc B6.size _))).mono ?_
  rintro e w7 ⟨rfl, hb7⟩
  have B7 := later (B6.alloc B6.size _) hb7
  have x_70 := cell_below hb7 (cell_alloc x_60)
  have x_71 := cell_below hb7 (cell_alloc x_61)
  have x_72 := cell_below hb7 (cell_alloc x_62)
  clear x_60 x_61 x_62
  go_wp2_with fail
  refine (cT ⟨#[97, 98, 99]⟩ _).mono ?_
  rintro e w8 ⟨rfl, hb8⟩
  have B8 := later (B7.alloc B7.size _) hb8
  have x_80 := cell_below hb8 (cell_alloc x_70)
  have x_81 := cell_below hb8 (cell_alloc x_71)
  have x_82 := cell_below hb8 (cell_alloc x_72)
  clear x_70 x_71 x_72
  have y_80 := cell_below hb8 (a := ⟨w7.heap.size, 0, none⟩) (v := .int .i64 3) (by simp [go_sem])
  have y_81 := cell_below hb8 (a := ⟨w7.heap.size, 1, none⟩) (v := .int .i64 0) (by simp [go_sem])
  have y_82 := cell_below hb8 (a := ⟨w7.heap.size, 2, none⟩) (v := .string ⟨#[97]⟩) (by simp [go_sem])
  go_wp2_with fail
  refine (cT ⟨#[99]⟩ _).mono ?_
  rintro e w9 ⟨rfl, hb9⟩
  have B9 := later B8 hb9
  have x_90 := cell_below hb9 (x_80)
  have x_91 := cell_below hb9 (x_81)
  have x_92 := cell_below hb9 (x_82)
  clear x_80 x_81 x_82
  have y_90 := cell_below hb9 (y_80)
  have y_91 := cell_below hb9 (y_81)
  have y_92 := cell_below hb9 (y_82)
  clear y_80 y_81 y_82
  go_wp2_with fail
  refine (cI _ _ (VS.made [GV.text ⟨#[97, 98, 99]⟩, GV.text ⟨#[99]⟩] (by first | (with_reducible rfl) | simp | simp [go_sem]) rfl rfl (by simp)) (hm.below (B9.alloc B9.size _))).mono ?_
  rintro e w10 ⟨rfl, hb10⟩
  have B10 := later (B9.alloc B9.size _) hb10
  have x_100 := cell_below hb10 (cell_alloc x_90)
  have x_101 := cell_below hb10 (cell_alloc x_91)
  have x_102 := cell_below hb10 (cell_alloc x_92)
  clear x_90 x_91 x_92
  have y_100 := cell_below hb10 (cell_alloc y_90)
  have y_101 := cell_below hb10 (cell_alloc y_91)
  have y_102 := cell_below hb10 (cell_alloc y_92)
  clear y_90 y_91 y_92
  go_wp2_with fail
  refine (cT ⟨#[97]⟩ _).mono ?_
  rintro e w11 ⟨rfl, hb11⟩
  have B11 := later (B10.alloc B10.size _) hb11
  have x_110 := cell_below hb11 (cell_alloc x_100)
  have x_111 := cell_below hb11 (cell_alloc x_101)
  have x_112 := cell_below hb11 (cell_alloc x_102)
  clear x_100 x_101 x_102
  have y_110 := cell_below hb11 (cell_alloc y_100)
  have y_111 := cell_below hb11 (cell_alloc y_101)
  have y_112 := cell_below hb11 (cell_alloc y_102)
  clear y_100 y_101 y_102
  have z_110 := cell_below hb11 (a := ⟨w10.heap.size, 0, none⟩) (v := .int .i64 2) (by simp [go_sem])
  have z_111 := cell_below hb11 (a := ⟨w10.heap.size, 1, none⟩) (v := .int .i64 (3)) (by simp [go_sem])
  have z_112 := cell_below hb11 (a := ⟨w10.heap.size, 2, none⟩) (v := .string ⟨#[]⟩) (by simp [go_sem])
  go_wp2_with fail
  refine (cT ⟨#[98]⟩ _).mono ?_
  rintro e w12 ⟨rfl, hb12⟩
  have B12 := later B11 hb12
  have x_120 := cell_below hb12 (x_110)
  have x_121 := cell_below hb12 (x_111)
  have x_122 := cell_below hb12 (x_112)
  clear x_110 x_111 x_112
  have y_120 := cell_below hb12 (y_110)
  have y_121 := cell_below hb12 (y_111)
  have y_122 := cell_below hb12 (y_112)
  clear y_110 y_111 y_112
  have z_120 := cell_below hb12 (z_110)
  have z_121 := cell_below hb12 (z_111)
  have z_122 := cell_below hb12 (z_112)
  clear z_110 z_111 z_112
  go_wp2_with fail
  refine (cJ _).mono ?_
  rintro e w13 ⟨rfl, hb13⟩
  have B13 := later B12 hb13
  have x_130 := cell_below hb13 (x_120)
  have x_131 := cell_below hb13 (x_121)
  have x_132 := cell_below hb13 (x_122)
  clear x_120 x_121 x_122
  have y_130 := cell_below hb13 (y_120)
  have y_131 := cell_below hb13 (y_121)
  have y_132 := cell_below hb13 (y_122)
  clear y_120 y_121 y_122
  have z_130 := cell_below hb13 (z_120)
  have z_131 := cell_below hb13 (z_121)
  have z_132 := cell_below hb13 (z_122)
  clear z_120 z_121 z_122
  go_wp2_with fail
  refine (cR _).mono ?_
  rintro e w14 ⟨rfl, hb14⟩
  have B14 := later (B13.alloc B13.size _) hb14
  have x_140 := cell_below hb14 (cell_alloc x_130)
  have x_141 := cell_below hb14 (cell_alloc x_131)
  have x_142 := cell_below hb14 (cell_alloc x_132)
  clear x_130 x_131 x_132
  have y_140 := cell_below hb14 (cell_alloc y_130)
  have y_141 := cell_below hb14 (cell_alloc y_131)
  have y_142 := cell_below hb14 (cell_alloc y_132)
  clear y_130 y_131 y_132
  have z_140 := cell_below hb14 (cell_alloc z_130)
  have z_141 := cell_below hb14 (cell_alloc z_131)
  have z_142 := cell_below hb14 (cell_alloc z_132)
  clear z_130 z_131 z_132
  have u_140 := cell_below hb14 (a := ⟨w13.heap.size, 0, none⟩) (v := .int .i64 3) (by simp [go_sem])
  have u_141 := cell_below hb14 (a := ⟨w13.heap.size, 1, none⟩) (v := .int .i64 0) (by simp [go_sem])
  have u_142 := cell_below hb14 (a := ⟨w13.heap.size, 2, none⟩) (v := .string ⟨#[97, 98]⟩) (by simp [go_sem])
  go_wp2_with fail
  have hzx_14 := lt_of_cell x_140
  have hzy_14 := lt_of_cell y_140
  have hzz_14 := lt_of_cell z_140
  have hzu_14 := lt_of_cell u_140
  refine wp_region_later (by kernel_rfl) (by kernel_rfl) ?_
  repeat (go_big_quiet_step (first
    | exact Calls.quiet_later (cN _ _) (fun _ _ h => h)
    | exact Calls.quiet_later (cT _ _) (fun _ _ h => h)))
  refine wpQuiet_nil ?_
  rintro w99 ⟨u, rfl⟩
  have hb99 := laterW_below _ u
  generalize laterW _ u = w99 at *
  have B99 := later B14 hb99
  go_wp2
  go_returns
  exact Rets.bool rfl B99
end Go.Proofs.YtddnkjeogidfcaaDoor
