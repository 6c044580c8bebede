/-  ScalarCases: the walk. -/
import Derived.Test.YtddnkjeogidfcaaDoorLive
import Derived.Test.YtddnkjeogidfcaaDoorCasesP
import Derived.Test.YtddnkjeogidfcaaDoorDraw
namespace Go.Proofs.YtddnkjeogidfcaaDoor
open Go.RowKit Go.Shelf Go

set_option maxRecDepth 100000 in
set_option maxHeartbeats 1000000 in
theorem cases_out (s t : ByteArray) (w : World) (hm : SomeMax w) (h : (500 : Int) < (s.size : Int) ∨ ¬ (500 : Int) < (s.size : Int) ∧ (100 : Int) < (t.size : Int)) : Calls Tryd.prog 7 #[.string s, .string t] w (Rets (.bool true) w) := by
  have cL := live_true w hm
  clear hm
  generalize hz : s.size = z at *
  generalize hz2 : t.size = z2 at *
  rcases h with h | ⟨h, h2⟩
  all_goals
    go_enter Tryd.func7, Tryd.ntmps7
    go_wp2_with fail
    refine cL.mono ?_
    rintro e w1 ⟨rfl, hb1⟩
    have B1 := later (Below.refl _ _) hb1
    go_wp2
    go_returns
    exact Rets.bool rfl B1

set_option maxRecDepth 100000 in
set_option maxHeartbeats 8000000 in
theorem cases_in (s t : ByteArray) (w : World) (hm : SomeMax w) (hs : ¬ (500 : Int) < (s.size : Int)) (h0 : ¬ (100 : Int) < (t.size : Int)) : Calls Tryd.prog 7 #[.string s, .string t] w (Rets (.bool true) w) := by
  have cL := live_true w hm
  have cT := fun W => ref_Text1 s W
  have cTt := fun W => ref_Text1 t W
  have cU := fun v W (hv : VS W v [GV.text s]) (h : SomeMax W) => call_upper s (by omega) v W hv h
  have cLo := fun v W (hv : VS W v [GV.text s]) (h : SomeMax W) => call_lower s (by omega) v W hv h
  have cUL := fun v W (hv : VS W v [GV.text (loB s)]) (h : SomeMax W) => call_upper (loB s) (by rw [loB_size]; omega) v W hv h
  rw [upB_loB] at cUL
  have cLU := fun v W (hv : VS W v [GV.text (upB s)]) (h : SomeMax W) => call_lower (upB s) (by rw [upB_size]; omega) v W hv h
  rw [loB_upB] at cLU
  have hts : (trB s).size ≤ 9223372036854775807 := trB_small s (by omega)
  have cTr := fun v W (hv : VS W v [GV.text s]) (h : SomeMax W) => call_trim s (by omega) v W hv h
  have cTT := fun v W (hv : VS W v [GV.text (trB s)]) (h : SomeMax W) => call_trim (trB s) hts v W hv h
  rw [trB_trB] at cTT
  have cRe := fun v W (hv : VS W v [GV.text s, GV.text t, GV.text t]) (h : SomeMax W) => call_replace s t (by omega) v W hv h
  have z1 := upB_size s
  have z2 := loB_size s
  have ends := trB_ends s
  generalize upB s = u at *
  generalize loB s = lo at *
  generalize trB s = tr at *
  unfold bUpper at cU cUL
  unfold bLower at cLo cLU
  unfold bTrim at cTr cTT
  unfold bReplace at cRe
  simp only [GV.val, GV.text] at cT cTt cU cLo cUL cLU cTr cTT cRe
  have HM := Lib.hid hm
  have HENDS := Lib.hid ends
  have HTS := Lib.hid hts
  have hz1 : ((u.size : Int) == (s.size : Int)) = true := beq_iff_eq.2 (by omega)
  have hz2 : ((lo.size : Int) == (s.size : Int)) = true := beq_iff_eq.2 (by omega)
  clear hm ends hts z1 z2
  go_enter Tryd.func7, Tryd.ntmps7
  go_wp2_with fail
  refine (cL).mono ?_
  rintro e w1 ⟨rfl, hb1⟩
  have B1 := later (Below.refl _ _) hb1
  go_wp2_with fail
  refine (cT _).mono ?_
  rintro e w2 ⟨rfl, hb2⟩
  have B2 := later B1 hb2
  go_wp2_with fail
  refine (cU _ _ (VS.made [GV.text s] (by first | (with_reducible rfl) | simp | simp [go_sem]) rfl rfl (by simp)) (HM.out.below ((B2.alloc B2.size _).alloc (B2.alloc B2.size _).size _))).mono ?_
  rintro e w3 ⟨rfl, hb3⟩
  have v0_3 := cell_below hb3 (a := ⟨w2.heap.size, 0, none⟩) (v := .int .i64 3) (by simp [go_sem])
  have v1_3 := cell_below hb3 (a := ⟨w2.heap.size, 1, none⟩) (v := .int .i64 0) (by simp [go_sem])
  have v2_3 := cell_below hb3 (a := ⟨w2.heap.size, 2, none⟩) (v := .string s) (by simp [go_sem])
  have B3 := later ((B2.alloc B2.size _).alloc (B2.alloc B2.size _).size _) hb3
  have hz_v0_3 := lt_of_cell v0_3
  go_wp2_with fail
  refine (cLo _ _ (VS.made [GV.text s] (by first | (with_reducible rfl) | simp | simp [go_sem]) rfl rfl (by simp)) (HM.out.below ((B3.alloc B3.size _).alloc (B3.alloc B3.size _).size _))).mono ?_
  rintro e w4 ⟨rfl, hb4⟩
  have v0_4 := cell_below hb4 (cell_alloc (cell_alloc (v0_3)))
  have v1_4 := cell_below hb4 (cell_alloc (cell_alloc (v1_3)))
  have v2_4 := cell_below hb4 (cell_alloc (cell_alloc (v2_3)))
  have u0_4 := cell_below hb4 (a := ⟨w3.heap.size, 0, none⟩) (v := .int .i64 3) (by simp [go_sem])
  have u1_4 := cell_below hb4 (a := ⟨w3.heap.size, 1, none⟩) (v := .int .i64 0) (by simp [go_sem])
  have u2_4 := cell_below hb4 (a := ⟨w3.heap.size, 2, none⟩) (v := .string u) (by simp [go_sem])
  have B4 := later ((B3.alloc B3.size _).alloc (B3.alloc B3.size _).size _) hb4
  have hz_v0_4 := lt_of_cell v0_4
  have hz_u0_4 := lt_of_cell u0_4
  clear v0_3 v1_3 v2_3 hz_v0_3
  go_wp2_with fail
  refine (cUL _ _ (VS.made [GV.text lo] (by first | (with_reducible rfl) | simp | simp [go_sem]) rfl rfl (by simp)) (HM.out.below ((B4.alloc B4.size _).alloc (B4.alloc B4.size _).size _))).mono ?_
  rintro e w5 ⟨rfl, hb5⟩
  have v0_5 := cell_below hb5 (cell_alloc (cell_alloc (v0_4)))
  have v1_5 := cell_below hb5 (cell_alloc (cell_alloc (v1_4)))
  have v2_5 := cell_below hb5 (cell_alloc (cell_alloc (v2_4)))
  have u0_5 := cell_below hb5 (cell_alloc (cell_alloc (u0_4)))
  have u1_5 := cell_below hb5 (cell_alloc (cell_alloc (u1_4)))
  have u2_5 := cell_below hb5 (cell_alloc (cell_alloc (u2_4)))
  have lo0_5 := cell_below hb5 (a := ⟨w4.heap.size, 0, none⟩) (v := .int .i64 3) (by simp [go_sem])
  have lo1_5 := cell_below hb5 (a := ⟨w4.heap.size, 1, none⟩) (v := .int .i64 0) (by simp [go_sem])
  have lo2_5 := cell_below hb5 (a := ⟨w4.heap.size, 2, none⟩) (v := .string lo) (by simp [go_sem])
  have B5 := later ((B4.alloc B4.size _).alloc (B4.alloc B4.size _).size _) hb5
  have hz_v0_5 := lt_of_cell v0_5
  have hz_u0_5 := lt_of_cell u0_5
  have hz_lo0_5 := lt_of_cell lo0_5
  clear v0_4 v1_4 v2_4 u0_4 u1_4 u2_4 hz_v0_4 hz_u0_4
  go_wp2_with fail
  refine (cLU _ _ (VS.made [GV.text u] (by first | (with_reducible rfl) | simp | simp [go_sem]) rfl rfl (by simp)) (HM.out.below ((B5.alloc B5.size _).alloc (B5.alloc B5.size _).size _))).mono ?_
  rintro e w6 ⟨rfl, hb6⟩
  have v0_6 := cell_below hb6 (cell_alloc (cell_alloc (v0_5)))
  have v1_6 := cell_below hb6 (cell_alloc (cell_alloc (v1_5)))
  have v2_6 := cell_below hb6 (cell_alloc (cell_alloc (v2_5)))
  have u0_6 := cell_below hb6 (cell_alloc (cell_alloc (u0_5)))
  have u1_6 := cell_below hb6 (cell_alloc (cell_alloc (u1_5)))
  have u2_6 := cell_below hb6 (cell_alloc (cell_alloc (u2_5)))
  have lo0_6 := cell_below hb6 (cell_alloc (cell_alloc (lo0_5)))
  have lo1_6 := cell_below hb6 (cell_alloc (cell_alloc (lo1_5)))
  have lo2_6 := cell_below hb6 (cell_alloc (cell_alloc (lo2_5)))
  have ul0_6 := cell_below hb6 (a := ⟨w5.heap.size, 0, none⟩) (v := .int .i64 3) (by simp [go_sem])
  have ul1_6 := cell_below hb6 (a := ⟨w5.heap.size, 1, none⟩) (v := .int .i64 0) (by simp [go_sem])
  have ul2_6 := cell_below hb6 (a := ⟨w5.heap.size, 2, none⟩) (v := .string u) (by simp [go_sem])
  have B6 := later ((B5.alloc B5.size _).alloc (B5.alloc B5.size _).size _) hb6
  have hz_v0_6 := lt_of_cell v0_6
  have hz_u0_6 := lt_of_cell u0_6
  have hz_lo0_6 := lt_of_cell lo0_6
  have hz_ul0_6 := lt_of_cell ul0_6
  clear v0_5 v1_5 v2_5 u0_5 u1_5 u2_5 lo0_5 lo1_5 lo2_5 hz_v0_5 hz_u0_5 hz_lo0_5
  go_wp2_with fail
  refine (cTr _ _ (VS.made [GV.text s] (by first | (with_reducible rfl) | simp | simp [go_sem]) rfl rfl (by simp)) (HM.out.below ((B6.alloc B6.size _).alloc (B6.alloc B6.size _).size _))).mono ?_
  rintro e w7 ⟨rfl, hb7⟩
  have v0_7 := cell_below hb7 (cell_alloc (cell_alloc (v0_6)))
  have v1_7 := cell_below hb7 (cell_alloc (cell_alloc (v1_6)))
  have v2_7 := cell_below hb7 (cell_alloc (cell_alloc (v2_6)))
  have u0_7 := cell_below hb7 (cell_alloc (cell_alloc (u0_6)))
  have u1_7 := cell_below hb7 (cell_alloc (cell_alloc (u1_6)))
  have u2_7 := cell_below hb7 (cell_alloc (cell_alloc (u2_6)))
  have lo0_7 := cell_below hb7 (cell_alloc (cell_alloc (lo0_6)))
  have lo1_7 := cell_below hb7 (cell_alloc (cell_alloc (lo1_6)))
  have lo2_7 := cell_below hb7 (cell_alloc (cell_alloc (lo2_6)))
  have ul0_7 := cell_below hb7 (cell_alloc (cell_alloc (ul0_6)))
  have ul1_7 := cell_below hb7 (cell_alloc (cell_alloc (ul1_6)))
  have ul2_7 := cell_below hb7 (cell_alloc (cell_alloc (ul2_6)))
  have lu0_7 := cell_below hb7 (a := ⟨w6.heap.size, 0, none⟩) (v := .int .i64 3) (by simp [go_sem])
  have lu1_7 := cell_below hb7 (a := ⟨w6.heap.size, 1, none⟩) (v := .int .i64 0) (by simp [go_sem])
  have lu2_7 := cell_below hb7 (a := ⟨w6.heap.size, 2, none⟩) (v := .string lo) (by simp [go_sem])
  have B7 := later ((B6.alloc B6.size _).alloc (B6.alloc B6.size _).size _) hb7
  have hz_v0_7 := lt_of_cell v0_7
  have hz_u0_7 := lt_of_cell u0_7
  have hz_lo0_7 := lt_of_cell lo0_7
  have hz_ul0_7 := lt_of_cell ul0_7
  have hz_lu0_7 := lt_of_cell lu0_7
  clear v0_6 v1_6 v2_6 u0_6 u1_6 u2_6 lo0_6 lo1_6 lo2_6 ul0_6 ul1_6 ul2_6 hz_v0_6 hz_u0_6 hz_lo0_6 hz_ul0_6
  go_wp2_with fail
  refine (cTT _ _ (VS.made [GV.text tr] (by first | (with_reducible rfl) | simp | simp [go_sem]) rfl rfl (by simp)) (HM.out.below ((B7.alloc B7.size _).alloc (B7.alloc B7.size _).size _))).mono ?_
  rintro e w8 ⟨rfl, hb8⟩
  have v0_8 := cell_below hb8 (cell_alloc (cell_alloc (v0_7)))
  have v1_8 := cell_below hb8 (cell_alloc (cell_alloc (v1_7)))
  have v2_8 := cell_below hb8 (cell_alloc (cell_alloc (v2_7)))
  have u0_8 := cell_below hb8 (cell_alloc (cell_alloc (u0_7)))
  have u1_8 := cell_below hb8 (cell_alloc (cell_alloc (u1_7)))
  have u2_8 := cell_below hb8 (cell_alloc (cell_alloc (u2_7)))
  have lo0_8 := cell_below hb8 (cell_alloc (cell_alloc (lo0_7)))
  have lo1_8 := cell_below hb8 (cell_alloc (cell_alloc (lo1_7)))
  have lo2_8 := cell_below hb8 (cell_alloc (cell_alloc (lo2_7)))
  have ul0_8 := cell_below hb8 (cell_alloc (cell_alloc (ul0_7)))
  have ul1_8 := cell_below hb8 (cell_alloc (cell_alloc (ul1_7)))
  have ul2_8 := cell_below hb8 (cell_alloc (cell_alloc (ul2_7)))
  have lu0_8 := cell_below hb8 (cell_alloc (cell_alloc (lu0_7)))
  have lu1_8 := cell_below hb8 (cell_alloc (cell_alloc (lu1_7)))
  have lu2_8 := cell_below hb8 (cell_alloc (cell_alloc (lu2_7)))
  have tr0_8 := cell_below hb8 (a := ⟨w7.heap.size, 0, none⟩) (v := .int .i64 3) (by simp [go_sem])
  have tr1_8 := cell_below hb8 (a := ⟨w7.heap.size, 1, none⟩) (v := .int .i64 0) (by simp [go_sem])
  have tr2_8 := cell_below hb8 (a := ⟨w7.heap.size, 2, none⟩) (v := .string tr) (by simp [go_sem])
  have B8 := later ((B7.alloc B7.size _).alloc (B7.alloc B7.size _).size _) hb8
  have hz_v0_8 := lt_of_cell v0_8
  have hz_u0_8 := lt_of_cell u0_8
  have hz_lo0_8 := lt_of_cell lo0_8
  have hz_ul0_8 := lt_of_cell ul0_8
  have hz_lu0_8 := lt_of_cell lu0_8
  have hz_tr0_8 := lt_of_cell tr0_8
  clear v0_7 v1_7 v2_7 u0_7 u1_7 u2_7 lo0_7 lo1_7 lo2_7 ul0_7 ul1_7 ul2_7 lu0_7 lu1_7 lu2_7 hz_v0_7 hz_u0_7 hz_lo0_7 hz_ul0_7 hz_lu0_7
  go_wp2_with fail
  obtain ⟨W8, hW8⟩ : ∃ W, W = w8.alloc (.cells #[.int .i64 3, .int .i64 0, .string tr] 23) := ⟨_, rfl⟩
  rw [← hW8]
  have v0R_8 := cell_alloc (o := .cells #[.int .i64 3, .int .i64 0, .string tr] 23) v0_8
  rw [← hW8] at v0R_8
  have v1R_8 := cell_alloc (o := .cells #[.int .i64 3, .int .i64 0, .string tr] 23) v1_8
  rw [← hW8] at v1R_8
  have v2R_8 := cell_alloc (o := .cells #[.int .i64 3, .int .i64 0, .string tr] 23) v2_8
  rw [← hW8] at v2R_8
  have u0R_8 := cell_alloc (o := .cells #[.int .i64 3, .int .i64 0, .string tr] 23) u0_8
  rw [← hW8] at u0R_8
  have u1R_8 := cell_alloc (o := .cells #[.int .i64 3, .int .i64 0, .string tr] 23) u1_8
  rw [← hW8] at u1R_8
  have u2R_8 := cell_alloc (o := .cells #[.int .i64 3, .int .i64 0, .string tr] 23) u2_8
  rw [← hW8] at u2R_8
  have lo0R_8 := cell_alloc (o := .cells #[.int .i64 3, .int .i64 0, .string tr] 23) lo0_8
  rw [← hW8] at lo0R_8
  have lo1R_8 := cell_alloc (o := .cells #[.int .i64 3, .int .i64 0, .string tr] 23) lo1_8
  rw [← hW8] at lo1R_8
  have lo2R_8 := cell_alloc (o := .cells #[.int .i64 3, .int .i64 0, .string tr] 23) lo2_8
  rw [← hW8] at lo2R_8
  have ul0R_8 := cell_alloc (o := .cells #[.int .i64 3, .int .i64 0, .string tr] 23) ul0_8
  rw [← hW8] at ul0R_8
  have ul1R_8 := cell_alloc (o := .cells #[.int .i64 3, .int .i64 0, .string tr] 23) ul1_8
  rw [← hW8] at ul1R_8
  have ul2R_8 := cell_alloc (o := .cells #[.int .i64 3, .int .i64 0, .string tr] 23) ul2_8
  rw [← hW8] at ul2R_8
  have lu0R_8 := cell_alloc (o := .cells #[.int .i64 3, .int .i64 0, .string tr] 23) lu0_8
  rw [← hW8] at lu0R_8
  have lu1R_8 := cell_alloc (o := .cells #[.int .i64 3, .int .i64 0, .string tr] 23) lu1_8
  rw [← hW8] at lu1R_8
  have lu2R_8 := cell_alloc (o := .cells #[.int .i64 3, .int .i64 0, .string tr] 23) lu2_8
  rw [← hW8] at lu2R_8
  have tr0R_8 := cell_alloc (o := .cells #[.int .i64 3, .int .i64 0, .string tr] 23) tr0_8
  rw [← hW8] at tr0R_8
  have tr1R_8 := cell_alloc (o := .cells #[.int .i64 3, .int .i64 0, .string tr] 23) tr1_8
  rw [← hW8] at tr1R_8
  have tr2R_8 := cell_alloc (o := .cells #[.int .i64 3, .int .i64 0, .string tr] 23) tr2_8
  rw [← hW8] at tr2R_8
  have tt0R_8 : W8.cell? ⟨w8.heap.size, 0, none⟩ = some (.int .i64 3) := by rw [hW8]; simp [go_sem]
  have tt1R_8 : W8.cell? ⟨w8.heap.size, 1, none⟩ = some (.int .i64 0) := by rw [hW8]; simp [go_sem]
  have tt2R_8 : W8.cell? ⟨w8.heap.size, 2, none⟩ = some (.string tr) := by rw [hW8]; simp [go_sem]
  have BR8 : Below w.heap.size w W8 := by rw [hW8]; exact B8.alloc B8.size _
  clear hW8 v0_8 v1_8 v2_8 u0_8 u1_8 u2_8 lo0_8 lo1_8 lo2_8 ul0_8 ul1_8 ul2_8 lu0_8 lu1_8 lu2_8 tr0_8 tr1_8 tr2_8 hz_v0_8 hz_u0_8 hz_lo0_8 hz_ul0_8 hz_lu0_8 hz_tr0_8
  refine wp_region_steps [71, 72, 73, 74, 75, 76, 77, 70, 78, 79, 19, 20] (Draw 5 [.agg #[.int .i64 3, .int .i64 0, .string s], .string t, .agg #[.int .i64 3, .int .i64 0, .string t], .string t, .agg #[.int .i64 3, .int .i64 0, .string t]] [GV.text s, GV.text t, GV.text t] (GV.text s) 0 W8) (by kernel_rfl) (by kernel_rfl) [undef, undef, undef, undef, undef, undef, undef, undef, undef, undef, undef, undef] (by simp only [fillA, fillT, List.setIfInBounds_toArray, List.set_cons_succ, List.set_cons_zero]) (Draw.start rfl) ?_ ?_
  · refine ⟨?_, ?_, ?_, ?_, ?_, ?_, ?_, ?_, ?_, ?_, ?_, ?_, ?_, trivial⟩
    · intro d xs W hd hE hJ
      obtain ⟨x0, x1, x2, x3, x4, x5, x6, x7, x8, x9, x10, x11, rfl⟩ := list12 hJ.len
      have y_v0R_8 := cell_below hJ.below v0R_8
      have y_v1R_8 := cell_below hJ.below v1R_8
      have y_v2R_8 := cell_below hJ.below v2R_8
      have y_u0R_8 := cell_below hJ.below u0R_8
      have y_u1R_8 := cell_below hJ.below u1R_8
      have y_u2R_8 := cell_below hJ.below u2R_8
      have y_lo0R_8 := cell_below hJ.below lo0R_8
      have y_lo1R_8 := cell_below hJ.below lo1R_8
      have y_lo2R_8 := cell_below hJ.below lo2R_8
      have y_ul0R_8 := cell_below hJ.below ul0R_8
      have y_ul1R_8 := cell_below hJ.below ul1R_8
      have y_ul2R_8 := cell_below hJ.below ul2R_8
      have y_lu0R_8 := cell_below hJ.below lu0R_8
      have y_lu1R_8 := cell_below hJ.below lu1R_8
      have y_lu2R_8 := cell_below hJ.below lu2R_8
      have y_tr0R_8 := cell_below hJ.below tr0R_8
      have y_tr1R_8 := cell_below hJ.below tr1R_8
      have y_tr2R_8 := cell_below hJ.below tr2R_8
      have y_tt0R_8 := cell_below hJ.below tt0R_8
      have y_tt1R_8 := cell_below hJ.below tt1R_8
      have y_tt2R_8 := cell_below hJ.below tt2R_8
      clear v0R_8 v1R_8 v2R_8 u0R_8 u1R_8 u2R_8 lo0R_8 lo1R_8 lo2R_8 ul0R_8 ul1R_8 ul2R_8 lu0R_8 lu1R_8 lu2R_8 tr0R_8 tr1R_8 tr2R_8 tt0R_8 tt1R_8 tt2R_8
      simp only [fillA, fillT, List.setIfInBounds_toArray, List.set_cons_succ, List.set_cons_zero]
      have HJ := Lib.hid hJ
      clear hJ hE
      go_wp2_with fail
      refine onlyK_normal ⟨_, ?_, HJ.out.fill 0 0 (.agg #[.int .i64 3, .int .i64 0, .string s]) (by decide) (.inl ⟨by decide, rfl, rfl⟩)⟩
      simp only [fillT, List.setIfInBounds_toArray, List.set_cons_succ, List.set_cons_zero]
    · intro d xs W hd hE hJ
      obtain ⟨x0, x1, x2, x3, x4, x5, x6, x7, x8, x9, x10, x11, rfl⟩ := list12 hJ.len
      simp only [fillA, fillT, List.setIfInBounds_toArray, List.set_cons_succ, List.set_cons_zero]
      have HJ := Lib.hid hJ
      clear hJ hE
      go_wp2_with fail
      refine onlyK_normal ⟨_, ?_, HJ.out.fill 1 1 (.string t) (by decide) (.inl ⟨by decide, rfl, rfl⟩)⟩
      simp only [fillT, List.setIfInBounds_toArray, List.set_cons_succ, List.set_cons_zero]
    · intro d xs W hd hE hJ
      obtain ⟨x0, x1, x2, x3, x4, x5, x6, x7, x8, x9, x10, x11, rfl⟩ := list12 hJ.len
      have e1 : d 1 = true := hE ⟨1, .data⟩ (by simp) rfl
      have q1 := hJ.head 1 (by decide) e1
      obtain rfl : x1 = .string t := by simpa using q1
      simp only [fillA, fillT, List.setIfInBounds_toArray, List.set_cons_succ, List.set_cons_zero]
      have HJ := Lib.hid hJ
      clear hJ hE
      go_wp2_with fail
      refine (cTt _).mono ?_
      rintro e W' ⟨rfl, hb⟩
      go_wp2_with fail
      refine onlyK_normal ⟨_, ?_, (HJ.out.later hb).fill 2 2 (.agg #[.int .i64 3, .int .i64 0, .string t]) (by decide) (.inl ⟨by decide, rfl, rfl⟩)⟩
      simp only [fillT, List.setIfInBounds_toArray, List.set_cons_succ, List.set_cons_zero]
    · intro d xs W hd hE hJ
      obtain ⟨x0, x1, x2, x3, x4, x5, x6, x7, x8, x9, x10, x11, rfl⟩ := list12 hJ.len
      simp only [fillA, fillT, List.setIfInBounds_toArray, List.set_cons_succ, List.set_cons_zero]
      have HJ := Lib.hid hJ
      clear hJ hE
      go_wp2_with fail
      refine onlyK_normal ⟨_, ?_, HJ.out.fill 3 3 (.string t) (by decide) (.inl ⟨by decide, rfl, rfl⟩)⟩
      simp only [fillT, List.setIfInBounds_toArray, List.set_cons_succ, List.set_cons_zero]
    · intro d xs W hd hE hJ
      obtain ⟨x0, x1, x2, x3, x4, x5, x6, x7, x8, x9, x10, x11, rfl⟩ := list12 hJ.len
      have e3 : d 3 = true := hE ⟨3, .data⟩ (by simp) rfl
      have q3 := hJ.head 3 (by decide) e3
      obtain rfl : x3 = .string t := by simpa using q3
      simp only [fillA, fillT, List.setIfInBounds_toArray, List.set_cons_succ, List.set_cons_zero]
      have HJ := Lib.hid hJ
      clear hJ hE
      go_wp2_with fail
      refine (cTt _).mono ?_
      rintro e W' ⟨rfl, hb⟩
      go_wp2_with fail
      refine onlyK_normal ⟨_, ?_, (HJ.out.later hb).fill 4 4 (.agg #[.int .i64 3, .int .i64 0, .string t]) (by decide) (.inl ⟨by decide, rfl, rfl⟩)⟩
      simp only [fillT, List.setIfInBounds_toArray, List.set_cons_succ, List.set_cons_zero]
    · intro d xs W hd hE hJ
      obtain ⟨x0, x1, x2, x3, x4, x5, x6, x7, x8, x9, x10, x11, rfl⟩ := list12 hJ.len
      have e0 : d 0 = true := hE ⟨0, .data⟩ (by simp) rfl
      have q0 := hJ.head 0 (by decide) e0
      obtain rfl : x0 = .agg #[.int .i64 3, .int .i64 0, .string s] := by simpa using q0
      have e2 : d 2 = true := hE ⟨2, .data⟩ (by simp) rfl
      have q2 := hJ.head 2 (by decide) e2
      obtain rfl : x2 = .agg #[.int .i64 3, .int .i64 0, .string t] := by simpa using q2
      have e4 : d 4 = true := hE ⟨4, .data⟩ (by simp) rfl
      have q4 := hJ.head 4 (by decide) e4
      obtain rfl : x4 = .agg #[.int .i64 3, .int .i64 0, .string t] := by simpa using q4
      simp only [fillA, fillT, List.setIfInBounds_toArray, List.set_cons_succ, List.set_cons_zero]
      have HJ := Lib.hid hJ
      clear hJ hE
      go_wp2_with fail
      refine onlyK_normal ⟨_, ?_, HJ.out.slice (.slice (some ⟨W.heap.size, 0, none⟩) 3 3) ((Below.refl _ _).alloc (Nat.le_refl _) _) (VS.made [GV.text s, GV.text t, GV.text t] rfl rfl rfl (by simp))⟩
      simp only [fillT, List.setIfInBounds_toArray, List.set_cons_succ, List.set_cons_zero]
    · intro d xs W hd hE hJ
      obtain ⟨x0, x1, x2, x3, x4, x5, x6, x7, x8, x9, x10, x11, rfl⟩ := list12 hJ.len
      have e5 : d 5 = true := hE ⟨5, .data⟩ (by simp) rfl
      have e6 : d 11 = false := by
        cases h6 : d 11 with
        | false => rfl
        | true => rw [(hJ.ord h6).2] at hd; cases hd
      obtain ⟨sv, hs1, hv⟩ := hJ.sl e5 e6
      obtain rfl : x5 = sv := by simpa using hs1
      simp only [fillA, fillT, List.setIfInBounds_toArray, List.set_cons_succ, List.set_cons_zero]
      have HJ := Lib.hid hJ
      clear hJ hE
      go_wp2_with fail
      refine (cRe _ _ hv (HM.out.below (later BR8 HJ.out.below))).mono ?_
      rintro e W' ⟨rfl, hb⟩
      go_wp2_with fail
      refine onlyK_normal ⟨_, ?_, (HJ.out.later hb).fill 6 6 (.tuple #[.agg #[.int .i64 3, .int .i64 0, .string s], .int .i64 0]) (by decide) (.inr (.inl ⟨rfl, rfl, rfl⟩))⟩
      simp only [fillT, List.setIfInBounds_toArray, List.set_cons_succ, List.set_cons_zero]
    · intro d xs W hd hE hJ
      obtain ⟨x0, x1, x2, x3, x4, x5, x6, x7, x8, x9, x10, x11, rfl⟩ := list12 hJ.len
      have e6 : d 6 = true := hE ⟨6, .data⟩ (by simp) rfl
      have q := hJ.call e6
      obtain rfl : x6 = .tuple #[(GV.text s).val, .int .i64 0] := by simpa using q
      simp only [fillA, fillT, List.setIfInBounds_toArray, List.set_cons_succ, List.set_cons_zero]
      have HJ := Lib.hid hJ
      clear hJ hE
      go_wp2_with fail
      refine onlyK_normal ⟨_, ?_, HJ.out.fill 7 7 _ (by decide) (.inr (.inr (.inl ⟨rfl, rfl, rfl⟩)))⟩
      simp only [fillT, List.setIfInBounds_toArray, List.set_cons_succ, List.set_cons_zero]
    · intro d xs W hd hE hJ
      obtain ⟨x0, x1, x2, x3, x4, x5, x6, x7, x8, x9, x10, x11, rfl⟩ := list12 hJ.len
      have e7 : d 7 = true := hE ⟨7, .data⟩ (by simp) rfl
      have q := hJ.mv e7
      obtain rfl : x7 = .tuple #[(GV.text s).val, .int .i64 0] := by simpa using q
      simp only [fillA, fillT, List.setIfInBounds_toArray, List.set_cons_succ, List.set_cons_zero]
      have HJ := Lib.hid hJ
      clear hJ hE
      go_wp2_with fail
      refine onlyK_normal ⟨_, ?_, HJ.out.fill 8 8 _ (by decide) (.inr (.inr (.inr (.inl ⟨rfl, rfl, rfl⟩))))⟩
      simp only [fillT, List.setIfInBounds_toArray, List.set_cons_succ, List.set_cons_zero]
    · intro d xs W hd hE hJ
      obtain ⟨x0, x1, x2, x3, x4, x5, x6, x7, x8, x9, x10, x11, rfl⟩ := list12 hJ.len
      have e7 : d 7 = true := hE ⟨7, .data⟩ (by simp) rfl
      have q := hJ.mv e7
      obtain rfl : x7 = .tuple #[(GV.text s).val, .int .i64 0] := by simpa using q
      simp only [fillA, fillT, List.setIfInBounds_toArray, List.set_cons_succ, List.set_cons_zero]
      have HJ := Lib.hid hJ
      clear hJ hE
      go_wp2_with fail
      refine onlyK_normal ⟨_, ?_, HJ.out.fill 9 9 _ (by decide) (.inr (.inr (.inr (.inr (.inl ⟨rfl, rfl, rfl⟩)))))⟩
      simp only [fillT, List.setIfInBounds_toArray, List.set_cons_succ, List.set_cons_zero]
    · intro d xs W hd hE hJ
      obtain ⟨x0, x1, x2, x3, x4, x5, x6, x7, x8, x9, x10, x11, rfl⟩ := list12 hJ.len
      simp only [fillA, fillT, List.setIfInBounds_toArray, List.set_cons_succ, List.set_cons_zero]
      have HJ := Lib.hid hJ
      clear hJ hE
      go_wp2_with fail
      refine onlyK_normal ⟨_, ?_, HJ.out.block hd _⟩
      simp only [fillT, List.setIfInBounds_toArray, List.set_cons_succ, List.set_cons_zero]
    · intro d xs W hd hE hJ
      obtain ⟨x0, x1, x2, x3, x4, x5, x6, x7, x8, x9, x10, x11, rfl⟩ := list12 hJ.len
      have e10 : d 10 = true := hE ⟨10, .data⟩ (by simp) rfl
      have e8 : d 8 = true := hE ⟨8, .data⟩ (by simp) rfl
      have e6 : d 6 = true := hE ⟨6, .chain⟩ (by simp) rfl
      have q := hJ.ex0 e8
      obtain rfl : x8 = .agg #[.int .i64 3, .int .i64 0, .string s] := by simpa [GV.val, GV.text] using q
      have hJ2 := hJ.al e10
      obtain ⟨bb, hb1, hge, c0, c1, c2, hf⟩ := hJ2
      have hb2 := hb1
      obtain rfl : x10 = .pointer (some ⟨bb, 0, none⟩) := by simpa using hb1
      rw [hd] at c0 c1 c2
      simp only [Bool.false_eq_true, if_false] at c0 c1 c2
      have hbz := lt_of_cell c0
      simp only [fillA, fillT, List.setIfInBounds_toArray, List.set_cons_succ, List.set_cons_zero]
      have HJ := Lib.hid hJ
      have HE := Lib.hid e10
      have HE1 := Lib.hid e6
      clear hJ hE
      go_wp2_with fail
      refine onlyK_normal ⟨_, ?_, HJ.out.store HE.out HE1.out rfl⟩
      simp only [fillT, List.setIfInBounds_toArray, List.set_cons_succ, List.set_cons_zero]
    · intro d xs W hd hE hJ
      obtain ⟨x0, x1, x2, x3, x4, x5, x6, x7, x8, x9, x10, x11, rfl⟩ := list12 hJ.len
      have e9 : d 9 = true := hE ⟨9, .data⟩ (by simp) rfl
      have q := hJ.ex1 e9
      obtain rfl : x9 = .int .i64 0 := by simpa using q
      simp only [fillA, fillT, List.setIfInBounds_toArray, List.set_cons_succ, List.set_cons_zero]
      have HJ := Lib.hid hJ
      clear hJ hE
      go_wp2_with fail
      refine onlyK_normal ⟨_, ?_, HJ.out.fill 12 11 _ (by decide) (.inr (.inr (.inr (.inr (.inr ⟨rfl, rfl, rfl⟩)))))⟩
      simp only [fillT, List.setIfInBounds_toArray, List.set_cons_succ, List.set_cons_zero]
  · intro d xs w9 hd hJ
    obtain ⟨x0, x1, x2, x3, x4, x5, x6, x7, x8, x9, x10, x11, rfl⟩ := list12 hJ.len
    have q0 := hJ.head 0 (by decide) (hd 0 (by decide))
    obtain rfl : x0 = .agg #[.int .i64 3, .int .i64 0, .string s] := by simpa using q0
    clear q0
    have q1 := hJ.head 1 (by decide) (hd 1 (by decide))
    obtain rfl : x1 = .string t := by simpa using q1
    clear q1
    have q2 := hJ.head 2 (by decide) (hd 2 (by decide))
    obtain rfl : x2 = .agg #[.int .i64 3, .int .i64 0, .string t] := by simpa using q2
    clear q2
    have q3 := hJ.head 3 (by decide) (hd 3 (by decide))
    obtain rfl : x3 = .string t := by simpa using q3
    clear q3
    have q4 := hJ.head 4 (by decide) (hd 4 (by decide))
    obtain rfl : x4 = .agg #[.int .i64 3, .int .i64 0, .string t] := by simpa using q4
    clear q4
    have q := hJ.call (hd 6 (by decide))
    obtain rfl : x6 = .tuple #[(GV.text s).val, .int .i64 0] := by simpa using q
    clear q
    have q := hJ.mv (hd 7 (by decide))
    obtain rfl : x7 = .tuple #[(GV.text s).val, .int .i64 0] := by simpa using q
    clear q
    have q := hJ.ex0 (hd 8 (by decide))
    obtain rfl : x8 = (GV.text s).val := by simpa using q
    clear q
    have q := hJ.ex1 (hd 9 (by decide))
    obtain rfl : x9 = .int .i64 0 := by simpa using q
    clear q
    have q := hJ.asg (hd 12 (by decide))
    obtain rfl : x11 = .int .i64 0 := by simpa using q
    clear q
    obtain ⟨bre, hq, hgere, c0, c1, c2, hfre⟩ := hJ.al (hd 10 (by decide))
    obtain rfl : x10 = .pointer (some ⟨bre, 0, none⟩) := by simpa using hq
    rw [hd 11 (by decide)] at c0 c1 c2
    have re0_9 : w9.cell? ⟨bre, 0, none⟩ = some (.int .i64 3) := c0
    have re1_9 : w9.cell? ⟨bre, 1, none⟩ = some (.int .i64 0) := c1
    have re2_9 : w9.cell? ⟨bre, 2, none⟩ = some (.string s) := c2
    have v0_9 := cell_below hJ.below v0R_8
    have v1_9 := cell_below hJ.below v1R_8
    have v2_9 := cell_below hJ.below v2R_8
    have u0_9 := cell_below hJ.below u0R_8
    have u1_9 := cell_below hJ.below u1R_8
    have u2_9 := cell_below hJ.below u2R_8
    have lo0_9 := cell_below hJ.below lo0R_8
    have lo1_9 := cell_below hJ.below lo1R_8
    have lo2_9 := cell_below hJ.below lo2R_8
    have ul0_9 := cell_below hJ.below ul0R_8
    have ul1_9 := cell_below hJ.below ul1R_8
    have ul2_9 := cell_below hJ.below ul2R_8
    have lu0_9 := cell_below hJ.below lu0R_8
    have lu1_9 := cell_below hJ.below lu1R_8
    have lu2_9 := cell_below hJ.below lu2R_8
    have tr0_9 := cell_below hJ.below tr0R_8
    have tr1_9 := cell_below hJ.below tr1R_8
    have tr2_9 := cell_below hJ.below tr2R_8
    have tt0_9 := cell_below hJ.below tt0R_8
    have tt1_9 := cell_below hJ.below tt1R_8
    have tt2_9 := cell_below hJ.below tt2R_8
    have hz_v0_9 := lt_of_cell v0_9
    have hz_u0_9 := lt_of_cell u0_9
    have hz_lo0_9 := lt_of_cell lo0_9
    have hz_ul0_9 := lt_of_cell ul0_9
    have hz_lu0_9 := lt_of_cell lu0_9
    have hz_tr0_9 := lt_of_cell tr0_9
    have hz_tt0_9 := lt_of_cell tt0_9
    have hz_re0_9 := lt_of_cell re0_9
    have B9 := later BR8 hJ.below
    clear hd hJ hq c0 c1 c2 hfre BR8 v0R_8 v1R_8 v2R_8 u0R_8 u1R_8 u2R_8 lo0R_8 lo1R_8 lo2R_8 ul0R_8 ul1R_8 ul2R_8 lu0R_8 lu1R_8 lu2R_8 tr0R_8 tr1R_8 tr2R_8 tt0R_8 tt1R_8 tt2R_8
    unfold fillA
    simp only [fillT, List.setIfInBounds_toArray, List.set_cons_succ, List.set_cons_zero]
    by_cases he : tr.toList = []
    · have he' : (tr.toList == []) = true := beq_iff_eq.2 he
      clear he
      go_wp2
      go_returns
      exact Rets.bool rfl B9
    · have he' : (tr.toList == []) = false := beq_eq_false_iff_ne.2 he
      have hpos : 0 < tr.size := by
        rw [Go.ByteArray.toList_eq] at he
        exact List.length_pos_iff.2 he
      have hpi : (0 : Int) < (tr.size : Int) := by omega
      have hti := HTS.out
      have hlt0 : (0 : Int) ≤ (tr.size : Int) - 1 := by omega
      have hlt1 : (tr.size : Int) - 1 < (tr.size : Int) := by omega
      have HP := Lib.hid hpos
      clear he
      go_wp2_with fail
      · exact absurd (by assumption) (ends0 HP.out HENDS.out)
      · exact absurd (by assumption) (ends1 HP.out HENDS.out)
      · have g0 := ends0 HP.out HENDS.out
        have g1 := ends1 HP.out HENDS.out
        go_returns
        exact Rets.bool (by rw [bne_iff_ne.2 g0, bne_iff_ne.2 g1]; rfl) B9

theorem cases_any (s t : ByteArray) (w : World) (hm : SomeMax w) : Calls Tryd.prog 7 #[.string s, .string t] w (Rets (.bool true) w) := by
  by_cases h1 : (500 : Int) < (s.size : Int)
  · exact cases_out s t w hm (.inl h1)
  by_cases h2 : (100 : Int) < (t.size : Int)
  · exact cases_out s t w hm (.inr ⟨h1, h2⟩)
  exact cases_in s t w hm h1 h2
end Go.Proofs.YtddnkjeogidfcaaDoor
