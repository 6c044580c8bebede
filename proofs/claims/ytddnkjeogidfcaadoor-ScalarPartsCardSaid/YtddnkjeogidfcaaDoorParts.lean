/-  ScalarParts: the walk. -/
import Derived.Test.YtddnkjeogidfcaaDoorLive
import Derived.Test.YtddnkjeogidfcaaDoorPartsP
import Derived.Test.YtddnkjeogidfcaaDoorDraw
namespace Go.Proofs.YtddnkjeogidfcaaDoor
open Go.RowKit Go.Shelf Go

set_option maxRecDepth 100000 in
set_option maxHeartbeats 1000000 in
theorem parts_out (s : ByteArray) (n : Int) (w : World) (hm : SomeMax w) (h : (3000 : Int) < (s.size : Int) ∨ ¬ (3000 : Int) < (s.size : Int) ∧ n < 0 ∨ ¬ (3000 : Int) < (s.size : Int) ∧ ¬ n < 0 ∧ 4000 < n) : Calls Tryd.prog 5 #[.string s, .int .i64 n] w (Rets (.bool true) w) := by
  have cL := live_true w hm
  clear hm
  generalize hz : s.size = z at *
  rcases h with h | ⟨h, h2⟩ | ⟨h, h2, h3⟩
  all_goals
    go_enter Tryd.func5, Tryd.ntmps5
    go_wp2_with fail
    refine cL.mono ?_
    rintro e w1 ⟨rfl, hb1⟩
    have B1 := later (Below.refl _ _) hb1
    go_wp2
    go_returns
    exact Rets.bool rfl B1

set_option maxRecDepth 100000 in
set_option maxHeartbeats 8000000 in
theorem parts_in (s : ByteArray) (n : Int) (w : World) (hm : SomeMax w) (hs : ¬ (3000 : Int) < (s.size : Int)) (h0 : ¬ n < 0) (h4 : ¬ 4000 < n) : Calls Tryd.prog 5 #[.string s, .int .i64 n] w (Rets (.bool true) w) := by
  have cL := live_true w hm
  have L := parts_law s n (by omega) (by omega)
  have hI0 : I64 n := by unfold I64; omega
  have hI1 : I64 (n + 1) := by unfold I64; omega
  have cT := fun W => ref_Text1 s W
  have c1 := fun W => ref_Int1 1 W
  have cN := fun W => ref_Int1 n W
  have cN1 := fun W => ref_Int1 ((n + 1)) W
  have c5 := fun W => ref_Int1 5000 W
  have cA := fun v W (hv : VS W v [GV.text s, GV.num 1, GV.num n]) (h : SomeMax W) => call_substr s 1 n v W hv h (by unfold I64; simp) hI0 (by omega)
  rw [substr_one s n (by omega)] at cA
  have cB := fun v W (hv : VS W v [GV.text s, GV.num ((n + 1)), GV.num 5000]) (h : SomeMax W) => call_substr s ((n + 1)) 5000 v W hv h hI1 (by unfold I64; simp) (by omega)
  rw [substr_from s ((n + 1)) 5000 (by omega) (by omega)] at cB
  obtain ⟨l1, l2, l3, l4, l5⟩ := L
  generalize cutS s 1 n = a at *
  generalize cutS s (n + 1) 5000 = b at *
  have cJ := fun W => scalar_Join (GV.text a) (GV.text b) W (by unfold GV.text I64; simp) (by unfold GV.text I64; simp) (by show a.size + b.size ≤ _; omega)
  rw [join_texts a b, l1] at cJ
  have cLa := fun v W (hv : VS W v [GV.text a]) (h : SomeMax W) => call_length a v W hv h
  have cLb := fun v W (hv : VS W v [GV.text b]) (h : SomeMax W) => call_length b v W hv h
  have cLv := fun v W (hv : VS W v [GV.text s]) (h : SomeMax W) => call_length s v W hv h
  have cI := fun v W (hv : VS W v [GV.text s, GV.text b]) (h : SomeMax W) => call_instr s b v W hv h (by omega)
  unfold instrS at cI
  simp only [GV.text] at cI
  generalize Lib.index s.data.toList b.data.toList + 1 = at_ at *
  have cP := fun v W (hv : VS W v [GV.text s, GV.num at_, GV.num (b.size : Int)]) (h : SomeMax W) => call_substr s at_ (b.size : Int) v W hv h (by unfold I64; omega) (by unfold I64; omega) (by omega)
  rw [substr_from s at_ (b.size : Int) (by omega) (by omega), l5] at cP
  unfold lengthS at cLa cLb cLv
  unfold bSubstr at cA cB cP
  unfold bInstr at cI
  unfold bLength at cLa cLb cLv
  simp only [GV.val, GV.num, GV.text] at cT c1 cN cN1 c5 cA cB cJ cLa cLb cLv cI cP
  have hl2 : ((a.size : Int) + (b.size : Int) == (s.size : Int)) = true := beq_iff_eq.2 (by omega)
  have hl2a : (a.size : Int) + (b.size : Int) ≤ 3000 := by omega
  have hl3 : (1 : Int) ≤ at_ := l3
  have hl4 : at_ ≤ n + 1 := l4
  clear l1 l2 l3 l4 l5 hI0 hI1
  generalize a.size = za at *
  generalize b.size = zb at *
  generalize hzs : s.size = zs at *
  have HM := Lib.hid hm
  clear hm
  go_enter Tryd.func5, Tryd.ntmps5
  go_wp2_with fail
  refine (cL).mono ?_
  rintro e w1 ⟨rfl, hb1⟩
  have B1 := later (Below.refl _ _) hb1
  go_wp2_with fail
  refine (cT _).mono ?_
  rintro e w2 ⟨rfl, hb2⟩
  have B2 := later B1 hb2
  go_wp2_with fail
  refine (c1 _).mono ?_
  rintro e w3 ⟨rfl, hb3⟩
  have v0_3 := cell_below hb3 (a := ⟨w2.heap.size, 0, none⟩) (v := .int .i64 3) (by simp [go_sem])
  have v1_3 := cell_below hb3 (a := ⟨w2.heap.size, 1, none⟩) (v := .int .i64 0) (by simp [go_sem])
  have v2_3 := cell_below hb3 (a := ⟨w2.heap.size, 2, none⟩) (v := .string s) (by simp [go_sem])
  have B3 := later (B2.alloc B2.size _) hb3
  have hz_v0_3 := lt_of_cell v0_3
  go_wp2_with fail
  obtain ⟨W3, hW3⟩ : ∃ W, W = w3.alloc (.cells #[.int .i64 2, .int .i64 1, .string ⟨#[]⟩] 23) := ⟨_, rfl⟩
  rw [← hW3]
  have v0R_3 := cell_alloc (o := .cells #[.int .i64 2, .int .i64 1, .string ⟨#[]⟩] 23) v0_3
  rw [← hW3] at v0R_3
  have v1R_3 := cell_alloc (o := .cells #[.int .i64 2, .int .i64 1, .string ⟨#[]⟩] 23) v1_3
  rw [← hW3] at v1R_3
  have v2R_3 := cell_alloc (o := .cells #[.int .i64 2, .int .i64 1, .string ⟨#[]⟩] 23) v2_3
  rw [← hW3] at v2R_3
  have o0R_3 : W3.cell? ⟨w3.heap.size, 0, none⟩ = some (.int .i64 2) := by rw [hW3]; simp [go_sem]
  have o1R_3 : W3.cell? ⟨w3.heap.size, 1, none⟩ = some (.int .i64 1) := by rw [hW3]; simp [go_sem]
  have o2R_3 : W3.cell? ⟨w3.heap.size, 2, none⟩ = some (.string ⟨#[]⟩) := by rw [hW3]; simp [go_sem]
  have BR3 : Below w.heap.size w W3 := by rw [hW3]; exact B3.alloc B3.size _
  clear hW3 v0_3 v1_3 v2_3 hz_v0_3
  refine wp_region_steps [41, 42, 43, 44, 45, 46, 40, 47, 48, 8, 9] (Draw 4 [.agg #[.int .i64 3, .int .i64 0, .string s], .agg #[.int .i64 2, .int .i64 1, .string ⟨#[]⟩], .int .i64 n, .agg #[.int .i64 2, .int .i64 n, .string ⟨#[]⟩]] [GV.text s, GV.num 1, GV.num n] (GV.text a) 0 W3) (by kernel_rfl) (by kernel_rfl) [undef, undef, undef, undef, undef, undef, undef, undef, undef, undef, undef] (by simp only [fillA, fillT, List.setIfInBounds_toArray, List.set_cons_succ, List.set_cons_zero]) (Draw.start rfl) ?_ ?_
  · refine ⟨?_, ?_, ?_, ?_, ?_, ?_, ?_, ?_, ?_, ?_, ?_, ?_, trivial⟩
    · intro d xs W hd hE hJ
      obtain ⟨x0, x1, x2, x3, x4, x5, x6, x7, x8, x9, x10, rfl⟩ := list11 hJ.len
      have y_v0R_3 := cell_below hJ.below v0R_3
      have y_v1R_3 := cell_below hJ.below v1R_3
      have y_v2R_3 := cell_below hJ.below v2R_3
      have y_o0R_3 := cell_below hJ.below o0R_3
      have y_o1R_3 := cell_below hJ.below o1R_3
      have y_o2R_3 := cell_below hJ.below o2R_3
      clear v0R_3 v1R_3 v2R_3 o0R_3 o1R_3 o2R_3
      simp only [fillA, fillT, List.setIfInBounds_toArray, List.set_cons_succ, List.set_cons_zero]
      have HJ := Lib.hid hJ
      clear hJ hE
      go_wp2_with fail
      refine onlyK_normal ⟨_, ?_, HJ.out.fill 0 0 (.agg #[.int .i64 3, .int .i64 0, .string s]) (by decide) (.inl ⟨by decide, rfl, rfl⟩)⟩
      simp only [fillT, List.setIfInBounds_toArray, List.set_cons_succ, List.set_cons_zero]
    · intro d xs W hd hE hJ
      obtain ⟨x0, x1, x2, x3, x4, x5, x6, x7, x8, x9, x10, rfl⟩ := list11 hJ.len
      have y_v0R_3 := cell_below hJ.below v0R_3
      have y_v1R_3 := cell_below hJ.below v1R_3
      have y_v2R_3 := cell_below hJ.below v2R_3
      have y_o0R_3 := cell_below hJ.below o0R_3
      have y_o1R_3 := cell_below hJ.below o1R_3
      have y_o2R_3 := cell_below hJ.below o2R_3
      clear v0R_3 v1R_3 v2R_3 o0R_3 o1R_3 o2R_3
      simp only [fillA, fillT, List.setIfInBounds_toArray, List.set_cons_succ, List.set_cons_zero]
      have HJ := Lib.hid hJ
      clear hJ hE
      go_wp2_with fail
      refine onlyK_normal ⟨_, ?_, HJ.out.fill 1 1 (.agg #[.int .i64 2, .int .i64 1, .string ⟨#[]⟩]) (by decide) (.inl ⟨by decide, rfl, rfl⟩)⟩
      simp only [fillT, List.setIfInBounds_toArray, List.set_cons_succ, List.set_cons_zero]
    · intro d xs W hd hE hJ
      obtain ⟨x0, x1, x2, x3, x4, x5, x6, x7, x8, x9, x10, rfl⟩ := list11 hJ.len
      simp only [fillA, fillT, List.setIfInBounds_toArray, List.set_cons_succ, List.set_cons_zero]
      have HJ := Lib.hid hJ
      clear hJ hE
      go_wp2_with fail
      refine onlyK_normal ⟨_, ?_, HJ.out.fill 2 2 (.int .i64 n) (by decide) (.inl ⟨by decide, rfl, rfl⟩)⟩
      simp only [fillT, List.setIfInBounds_toArray, List.set_cons_succ, List.set_cons_zero]
    · intro d xs W hd hE hJ
      obtain ⟨x0, x1, x2, x3, x4, x5, x6, x7, x8, x9, x10, rfl⟩ := list11 hJ.len
      have e2 : d 2 = true := hE ⟨2, .data⟩ (by simp) rfl
      have q2 := hJ.head 2 (by decide) e2
      obtain rfl : x2 = .int .i64 n := by simpa using q2
      simp only [fillA, fillT, List.setIfInBounds_toArray, List.set_cons_succ, List.set_cons_zero]
      have HJ := Lib.hid hJ
      clear hJ hE
      go_wp2_with fail
      refine (cN _).mono ?_
      rintro e W' ⟨rfl, hb⟩
      go_wp2_with fail
      refine onlyK_normal ⟨_, ?_, (HJ.out.later hb).fill 3 3 (.agg #[.int .i64 2, .int .i64 n, .string ⟨#[]⟩]) (by decide) (.inl ⟨by decide, rfl, rfl⟩)⟩
      simp only [fillT, List.setIfInBounds_toArray, List.set_cons_succ, List.set_cons_zero]
    · intro d xs W hd hE hJ
      obtain ⟨x0, x1, x2, x3, x4, x5, x6, x7, x8, x9, x10, rfl⟩ := list11 hJ.len
      have e0 : d 0 = true := hE ⟨0, .data⟩ (by simp) rfl
      have q0 := hJ.head 0 (by decide) e0
      obtain rfl : x0 = .agg #[.int .i64 3, .int .i64 0, .string s] := by simpa using q0
      have e1 : d 1 = true := hE ⟨1, .data⟩ (by simp) rfl
      have q1 := hJ.head 1 (by decide) e1
      obtain rfl : x1 = .agg #[.int .i64 2, .int .i64 1, .string ⟨#[]⟩] := by simpa using q1
      have e3 : d 3 = true := hE ⟨3, .data⟩ (by simp) rfl
      have q3 := hJ.head 3 (by decide) e3
      obtain rfl : x3 = .agg #[.int .i64 2, .int .i64 n, .string ⟨#[]⟩] := by simpa using q3
      simp only [fillA, fillT, List.setIfInBounds_toArray, List.set_cons_succ, List.set_cons_zero]
      have HJ := Lib.hid hJ
      clear hJ hE
      go_wp2_with fail
      refine onlyK_normal ⟨_, ?_, HJ.out.slice (.slice (some ⟨W.heap.size, 0, none⟩) 3 3) ((Below.refl _ _).alloc (Nat.le_refl _) _) (VS.made [GV.text s, GV.num 1, GV.num n] rfl rfl rfl (by simp))⟩
      simp only [fillT, List.setIfInBounds_toArray, List.set_cons_succ, List.set_cons_zero]
    · intro d xs W hd hE hJ
      obtain ⟨x0, x1, x2, x3, x4, x5, x6, x7, x8, x9, x10, rfl⟩ := list11 hJ.len
      have e4 : d 4 = true := hE ⟨4, .data⟩ (by simp) rfl
      have e6 : d 10 = false := by
        cases h6 : d 10 with
        | false => rfl
        | true => rw [(hJ.ord h6).2] at hd; cases hd
      obtain ⟨sv, hs1, hv⟩ := hJ.sl e4 e6
      obtain rfl : x4 = sv := by simpa using hs1
      simp only [fillA, fillT, List.setIfInBounds_toArray, List.set_cons_succ, List.set_cons_zero]
      have HJ := Lib.hid hJ
      clear hJ hE
      go_wp2_with fail
      refine (cA _ _ hv (HM.out.below (later BR3 HJ.out.below))).mono ?_
      rintro e W' ⟨rfl, hb⟩
      go_wp2_with fail
      refine onlyK_normal ⟨_, ?_, (HJ.out.later hb).fill 5 5 (.tuple #[.agg #[.int .i64 3, .int .i64 0, .string a], .int .i64 0]) (by decide) (.inr (.inl ⟨rfl, rfl, rfl⟩))⟩
      simp only [fillT, List.setIfInBounds_toArray, List.set_cons_succ, List.set_cons_zero]
    · intro d xs W hd hE hJ
      obtain ⟨x0, x1, x2, x3, x4, x5, x6, x7, x8, x9, x10, rfl⟩ := list11 hJ.len
      have e5 : d 5 = true := hE ⟨5, .data⟩ (by simp) rfl
      have q := hJ.call e5
      obtain rfl : x5 = .tuple #[(GV.text a).val, .int .i64 0] := by simpa using q
      simp only [fillA, fillT, List.setIfInBounds_toArray, List.set_cons_succ, List.set_cons_zero]
      have HJ := Lib.hid hJ
      clear hJ hE
      go_wp2_with fail
      refine onlyK_normal ⟨_, ?_, HJ.out.fill 6 6 _ (by decide) (.inr (.inr (.inl ⟨rfl, rfl, rfl⟩)))⟩
      simp only [fillT, List.setIfInBounds_toArray, List.set_cons_succ, List.set_cons_zero]
    · intro d xs W hd hE hJ
      obtain ⟨x0, x1, x2, x3, x4, x5, x6, x7, x8, x9, x10, rfl⟩ := list11 hJ.len
      have e6 : d 6 = true := hE ⟨6, .data⟩ (by simp) rfl
      have q := hJ.mv e6
      obtain rfl : x6 = .tuple #[(GV.text a).val, .int .i64 0] := by simpa using q
      simp only [fillA, fillT, List.setIfInBounds_toArray, List.set_cons_succ, List.set_cons_zero]
      have HJ := Lib.hid hJ
      clear hJ hE
      go_wp2_with fail
      refine onlyK_normal ⟨_, ?_, HJ.out.fill 7 7 _ (by decide) (.inr (.inr (.inr (.inl ⟨rfl, rfl, rfl⟩))))⟩
      simp only [fillT, List.setIfInBounds_toArray, List.set_cons_succ, List.set_cons_zero]
    · intro d xs W hd hE hJ
      obtain ⟨x0, x1, x2, x3, x4, x5, x6, x7, x8, x9, x10, rfl⟩ := list11 hJ.len
      have e6 : d 6 = true := hE ⟨6, .data⟩ (by simp) rfl
      have q := hJ.mv e6
      obtain rfl : x6 = .tuple #[(GV.text a).val, .int .i64 0] := by simpa using q
      simp only [fillA, fillT, List.setIfInBounds_toArray, List.set_cons_succ, List.set_cons_zero]
      have HJ := Lib.hid hJ
      clear hJ hE
      go_wp2_with fail
      refine onlyK_normal ⟨_, ?_, HJ.out.fill 8 8 _ (by decide) (.inr (.inr (.inr (.inr (.inl ⟨rfl, rfl, rfl⟩)))))⟩
      simp only [fillT, List.setIfInBounds_toArray, List.set_cons_succ, List.set_cons_zero]
    · intro d xs W hd hE hJ
      obtain ⟨x0, x1, x2, x3, x4, x5, x6, x7, x8, x9, x10, rfl⟩ := list11 hJ.len
      simp only [fillA, fillT, List.setIfInBounds_toArray, List.set_cons_succ, List.set_cons_zero]
      have HJ := Lib.hid hJ
      clear hJ hE
      go_wp2_with fail
      refine onlyK_normal ⟨_, ?_, HJ.out.block hd _⟩
      simp only [fillT, List.setIfInBounds_toArray, List.set_cons_succ, List.set_cons_zero]
    · intro d xs W hd hE hJ
      obtain ⟨x0, x1, x2, x3, x4, x5, x6, x7, x8, x9, x10, rfl⟩ := list11 hJ.len
      have e9 : d 9 = true := hE ⟨9, .data⟩ (by simp) rfl
      have e7 : d 7 = true := hE ⟨7, .data⟩ (by simp) rfl
      have e5 : d 5 = true := hE ⟨5, .chain⟩ (by simp) rfl
      have q := hJ.ex0 e7
      obtain rfl : x7 = .agg #[.int .i64 3, .int .i64 0, .string a] := by simpa [GV.val, GV.text] using q
      have hJ2 := hJ.al e9
      obtain ⟨bb, hb1, hge, c0, c1, c2, hf⟩ := hJ2
      have hb2 := hb1
      obtain rfl : x9 = .pointer (some ⟨bb, 0, none⟩) := by simpa using hb1
      rw [hd] at c0 c1 c2
      simp only [Bool.false_eq_true, if_false] at c0 c1 c2
      have hbz := lt_of_cell c0
      simp only [fillA, fillT, List.setIfInBounds_toArray, List.set_cons_succ, List.set_cons_zero]
      have HJ := Lib.hid hJ
      have HE := Lib.hid e9
      have HE1 := Lib.hid e5
      clear hJ hE
      go_wp2_with fail
      refine onlyK_normal ⟨_, ?_, HJ.out.store HE.out HE1.out rfl⟩
      simp only [fillT, List.setIfInBounds_toArray, List.set_cons_succ, List.set_cons_zero]
    · intro d xs W hd hE hJ
      obtain ⟨x0, x1, x2, x3, x4, x5, x6, x7, x8, x9, x10, rfl⟩ := list11 hJ.len
      have e8 : d 8 = true := hE ⟨8, .data⟩ (by simp) rfl
      have q := hJ.ex1 e8
      obtain rfl : x8 = .int .i64 0 := by simpa using q
      simp only [fillA, fillT, List.setIfInBounds_toArray, List.set_cons_succ, List.set_cons_zero]
      have HJ := Lib.hid hJ
      clear hJ hE
      go_wp2_with fail
      refine onlyK_normal ⟨_, ?_, HJ.out.fill 11 10 _ (by decide) (.inr (.inr (.inr (.inr (.inr ⟨rfl, rfl, rfl⟩)))))⟩
      simp only [fillT, List.setIfInBounds_toArray, List.set_cons_succ, List.set_cons_zero]
  · intro d xs w4 hd hJ
    obtain ⟨x0, x1, x2, x3, x4, x5, x6, x7, x8, x9, x10, rfl⟩ := list11 hJ.len
    have q0 := hJ.head 0 (by decide) (hd 0 (by decide))
    obtain rfl : x0 = .agg #[.int .i64 3, .int .i64 0, .string s] := by simpa using q0
    clear q0
    have q1 := hJ.head 1 (by decide) (hd 1 (by decide))
    obtain rfl : x1 = .agg #[.int .i64 2, .int .i64 1, .string ⟨#[]⟩] := by simpa using q1
    clear q1
    have q2 := hJ.head 2 (by decide) (hd 2 (by decide))
    obtain rfl : x2 = .int .i64 n := by simpa using q2
    clear q2
    have q3 := hJ.head 3 (by decide) (hd 3 (by decide))
    obtain rfl : x3 = .agg #[.int .i64 2, .int .i64 n, .string ⟨#[]⟩] := by simpa using q3
    clear q3
    have q := hJ.call (hd 5 (by decide))
    obtain rfl : x5 = .tuple #[(GV.text a).val, .int .i64 0] := by simpa using q
    clear q
    have q := hJ.mv (hd 6 (by decide))
    obtain rfl : x6 = .tuple #[(GV.text a).val, .int .i64 0] := by simpa using q
    clear q
    have q := hJ.ex0 (hd 7 (by decide))
    obtain rfl : x7 = (GV.text a).val := by simpa using q
    clear q
    have q := hJ.ex1 (hd 8 (by decide))
    obtain rfl : x8 = .int .i64 0 := by simpa using q
    clear q
    have q := hJ.asg (hd 11 (by decide))
    obtain rfl : x10 = .int .i64 0 := by simpa using q
    clear q
    obtain ⟨ba, hq, hgea, c0, c1, c2, hfa⟩ := hJ.al (hd 9 (by decide))
    obtain rfl : x9 = .pointer (some ⟨ba, 0, none⟩) := by simpa using hq
    rw [hd 10 (by decide)] at c0 c1 c2
    have a0_4 : w4.cell? ⟨ba, 0, none⟩ = some (.int .i64 3) := c0
    have a1_4 : w4.cell? ⟨ba, 1, none⟩ = some (.int .i64 0) := c1
    have a2_4 : w4.cell? ⟨ba, 2, none⟩ = some (.string a) := c2
    have v0_4 := cell_below hJ.below v0R_3
    have v1_4 := cell_below hJ.below v1R_3
    have v2_4 := cell_below hJ.below v2R_3
    have o0_4 := cell_below hJ.below o0R_3
    have o1_4 := cell_below hJ.below o1R_3
    have o2_4 := cell_below hJ.below o2R_3
    have hz_v0_4 := lt_of_cell v0_4
    have hz_o0_4 := lt_of_cell o0_4
    have hz_a0_4 := lt_of_cell a0_4
    have B4 := later BR3 hJ.below
    clear hd hJ hq c0 c1 c2 hfa BR3 v0R_3 v1R_3 v2R_3 o0R_3 o1R_3 o2R_3
    unfold fillA
    simp only [fillT, List.setIfInBounds_toArray, List.set_cons_succ, List.set_cons_zero]
    go_wp2_with fail
    obtain ⟨W4, hW4⟩ : ∃ W, W = w4 := ⟨_, rfl⟩
    rw [← hW4]
    have v0R_4 := v0_4
    rw [← hW4] at v0R_4
    have v1R_4 := v1_4
    rw [← hW4] at v1R_4
    have v2R_4 := v2_4
    rw [← hW4] at v2R_4
    have o0R_4 := o0_4
    rw [← hW4] at o0R_4
    have o1R_4 := o1_4
    rw [← hW4] at o1R_4
    have o2R_4 := o2_4
    rw [← hW4] at o2R_4
    have a0R_4 := a0_4
    rw [← hW4] at a0R_4
    have a1R_4 := a1_4
    rw [← hW4] at a1R_4
    have a2R_4 := a2_4
    rw [← hW4] at a2R_4
    have BR4 : Below w.heap.size w W4 := by rw [hW4]; exact B4
    clear hW4 v0_4 v1_4 v2_4 o0_4 o1_4 o2_4 a0_4 a1_4 a2_4 hz_v0_4 hz_o0_4 hz_a0_4
    refine wp_region_steps [50, 51, 52, 53, 54, 55, 56, 49, 57, 58, 10, 11] (Draw 5 [.agg #[.int .i64 3, .int .i64 0, .string s], .int .i64 n, .int .i64 (n + 1), .agg #[.int .i64 2, .int .i64 (n + 1), .string ⟨#[]⟩], .agg #[.int .i64 2, .int .i64 5000, .string ⟨#[]⟩]] [GV.text s, GV.num (n + 1), GV.num 5000] (GV.text b) 0 W4) (by kernel_rfl) (by kernel_rfl) [undef, undef, undef, undef, undef, undef, undef, undef, undef, undef, undef, undef] (by simp only [fillA, fillT, List.setIfInBounds_toArray, List.set_cons_succ, List.set_cons_zero]) (Draw.start rfl) ?_ ?_
    · refine ⟨?_, ?_, ?_, ?_, ?_, ?_, ?_, ?_, ?_, ?_, ?_, ?_, ?_, trivial⟩
      · intro d xs W hd hE hJ
        obtain ⟨x0, x1, x2, x3, x4, x5, x6, x7, x8, x9, x10, x11, rfl⟩ := list12 hJ.len
        have y_v0R_4 := cell_below hJ.below v0R_4
        have y_v1R_4 := cell_below hJ.below v1R_4
        have y_v2R_4 := cell_below hJ.below v2R_4
        have y_o0R_4 := cell_below hJ.below o0R_4
        have y_o1R_4 := cell_below hJ.below o1R_4
        have y_o2R_4 := cell_below hJ.below o2R_4
        have y_a0R_4 := cell_below hJ.below a0R_4
        have y_a1R_4 := cell_below hJ.below a1R_4
        have y_a2R_4 := cell_below hJ.below a2R_4
        clear v0R_4 v1R_4 v2R_4 o0R_4 o1R_4 o2R_4 a0R_4 a1R_4 a2R_4
        simp only [fillA, fillT, List.setIfInBounds_toArray, List.set_cons_succ, List.set_cons_zero]
        have HJ := Lib.hid hJ
        clear hJ hE
        go_wp2_with fail
        refine onlyK_normal ⟨_, ?_, HJ.out.fill 0 0 (.agg #[.int .i64 3, .int .i64 0, .string s]) (by decide) (.inl ⟨by decide, rfl, rfl⟩)⟩
        simp only [fillT, List.setIfInBounds_toArray, List.set_cons_succ, List.set_cons_zero]
      · intro d xs W hd hE hJ
        obtain ⟨x0, x1, x2, x3, x4, x5, x6, x7, x8, x9, x10, x11, rfl⟩ := list12 hJ.len
        simp only [fillA, fillT, List.setIfInBounds_toArray, List.set_cons_succ, List.set_cons_zero]
        have HJ := Lib.hid hJ
        clear hJ hE
        go_wp2_with fail
        refine onlyK_normal ⟨_, ?_, HJ.out.fill 1 1 (.int .i64 n) (by decide) (.inl ⟨by decide, rfl, rfl⟩)⟩
        simp only [fillT, List.setIfInBounds_toArray, List.set_cons_succ, List.set_cons_zero]
      · intro d xs W hd hE hJ
        obtain ⟨x0, x1, x2, x3, x4, x5, x6, x7, x8, x9, x10, x11, rfl⟩ := list12 hJ.len
        have e1 : d 1 = true := hE ⟨1, .data⟩ (by simp) rfl
        have q1 := hJ.head 1 (by decide) e1
        obtain rfl : x1 = .int .i64 n := by simpa using q1
        simp only [fillA, fillT, List.setIfInBounds_toArray, List.set_cons_succ, List.set_cons_zero]
        have HJ := Lib.hid hJ
        clear hJ hE
        go_wp2_with fail
        refine onlyK_normal ⟨_, ?_, HJ.out.fill 2 2 (.int .i64 (n + 1)) (by decide) (.inl ⟨by decide, rfl, rfl⟩)⟩
        simp only [fillT, List.setIfInBounds_toArray, List.set_cons_succ, List.set_cons_zero]
      · intro d xs W hd hE hJ
        obtain ⟨x0, x1, x2, x3, x4, x5, x6, x7, x8, x9, x10, x11, rfl⟩ := list12 hJ.len
        have e2 : d 2 = true := hE ⟨2, .data⟩ (by simp) rfl
        have q2 := hJ.head 2 (by decide) e2
        obtain rfl : x2 = .int .i64 (n + 1) := by simpa using q2
        simp only [fillA, fillT, List.setIfInBounds_toArray, List.set_cons_succ, List.set_cons_zero]
        have HJ := Lib.hid hJ
        clear hJ hE
        go_wp2_with fail
        refine (cN1 _).mono ?_
        rintro e W' ⟨rfl, hb⟩
        go_wp2_with fail
        refine onlyK_normal ⟨_, ?_, (HJ.out.later hb).fill 3 3 (.agg #[.int .i64 2, .int .i64 (n + 1), .string ⟨#[]⟩]) (by decide) (.inl ⟨by decide, rfl, rfl⟩)⟩
        simp only [fillT, List.setIfInBounds_toArray, List.set_cons_succ, List.set_cons_zero]
      · intro d xs W hd hE hJ
        obtain ⟨x0, x1, x2, x3, x4, x5, x6, x7, x8, x9, x10, x11, rfl⟩ := list12 hJ.len
        simp only [fillA, fillT, List.setIfInBounds_toArray, List.set_cons_succ, List.set_cons_zero]
        have HJ := Lib.hid hJ
        clear hJ hE
        go_wp2_with fail
        refine (c5 _).mono ?_
        rintro e W' ⟨rfl, hb⟩
        go_wp2_with fail
        refine onlyK_normal ⟨_, ?_, (HJ.out.later hb).fill 4 4 (.agg #[.int .i64 2, .int .i64 5000, .string ⟨#[]⟩]) (by decide) (.inl ⟨by decide, rfl, rfl⟩)⟩
        simp only [fillT, List.setIfInBounds_toArray, List.set_cons_succ, List.set_cons_zero]
      · intro d xs W hd hE hJ
        obtain ⟨x0, x1, x2, x3, x4, x5, x6, x7, x8, x9, x10, x11, rfl⟩ := list12 hJ.len
        have e0 : d 0 = true := hE ⟨0, .data⟩ (by simp) rfl
        have q0 := hJ.head 0 (by decide) e0
        obtain rfl : x0 = .agg #[.int .i64 3, .int .i64 0, .string s] := by simpa using q0
        have e3 : d 3 = true := hE ⟨3, .data⟩ (by simp) rfl
        have q3 := hJ.head 3 (by decide) e3
        obtain rfl : x3 = .agg #[.int .i64 2, .int .i64 (n + 1), .string ⟨#[]⟩] := by simpa using q3
        have e4 : d 4 = true := hE ⟨4, .data⟩ (by simp) rfl
        have q4 := hJ.head 4 (by decide) e4
        obtain rfl : x4 = .agg #[.int .i64 2, .int .i64 5000, .string ⟨#[]⟩] := by simpa using q4
        simp only [fillA, fillT, List.setIfInBounds_toArray, List.set_cons_succ, List.set_cons_zero]
        have HJ := Lib.hid hJ
        clear hJ hE
        go_wp2_with fail
        refine onlyK_normal ⟨_, ?_, HJ.out.slice (.slice (some ⟨W.heap.size, 0, none⟩) 3 3) ((Below.refl _ _).alloc (Nat.le_refl _) _) (VS.made [GV.text s, GV.num (n + 1), GV.num 5000] rfl rfl rfl (by simp))⟩
        simp only [fillT, List.setIfInBounds_toArray, List.set_cons_succ, List.set_cons_zero]
      · intro d xs W hd hE hJ
        obtain ⟨x0, x1, x2, x3, x4, x5, x6, x7, x8, x9, x10, x11, rfl⟩ := list12 hJ.len
        have e5 : d 5 = true := hE ⟨5, .data⟩ (by simp) rfl
        have e6 : d 11 = false := by
          cases h6 : d 11 with
          | false => rfl
          | true => rw [(hJ.ord h6).2] at hd; cases hd
        obtain ⟨sv, hs1, hv⟩ := hJ.sl e5 e6
        obtain rfl : x5 = sv := by simpa using hs1
        simp only [fillA, fillT, List.setIfInBounds_toArray, List.set_cons_succ, List.set_cons_zero]
        have HJ := Lib.hid hJ
        clear hJ hE
        go_wp2_with fail
        refine (cB _ _ hv (HM.out.below (later BR4 HJ.out.below))).mono ?_
        rintro e W' ⟨rfl, hb⟩
        go_wp2_with fail
        refine onlyK_normal ⟨_, ?_, (HJ.out.later hb).fill 6 6 (.tuple #[.agg #[.int .i64 3, .int .i64 0, .string b], .int .i64 0]) (by decide) (.inr (.inl ⟨rfl, rfl, rfl⟩))⟩
        simp only [fillT, List.setIfInBounds_toArray, List.set_cons_succ, List.set_cons_zero]
      · intro d xs W hd hE hJ
        obtain ⟨x0, x1, x2, x3, x4, x5, x6, x7, x8, x9, x10, x11, rfl⟩ := list12 hJ.len
        have e6 : d 6 = true := hE ⟨6, .data⟩ (by simp) rfl
        have q := hJ.call e6
        obtain rfl : x6 = .tuple #[(GV.text b).val, .int .i64 0] := by simpa using q
        simp only [fillA, fillT, List.setIfInBounds_toArray, List.set_cons_succ, List.set_cons_zero]
        have HJ := Lib.hid hJ
        clear hJ hE
        go_wp2_with fail
        refine onlyK_normal ⟨_, ?_, HJ.out.fill 7 7 _ (by decide) (.inr (.inr (.inl ⟨rfl, rfl, rfl⟩)))⟩
        simp only [fillT, List.setIfInBounds_toArray, List.set_cons_succ, List.set_cons_zero]
      · intro d xs W hd hE hJ
        obtain ⟨x0, x1, x2, x3, x4, x5, x6, x7, x8, x9, x10, x11, rfl⟩ := list12 hJ.len
        have e7 : d 7 = true := hE ⟨7, .data⟩ (by simp) rfl
        have q := hJ.mv e7
        obtain rfl : x7 = .tuple #[(GV.text b).val, .int .i64 0] := by simpa using q
        simp only [fillA, fillT, List.setIfInBounds_toArray, List.set_cons_succ, List.set_cons_zero]
        have HJ := Lib.hid hJ
        clear hJ hE
        go_wp2_with fail
        refine onlyK_normal ⟨_, ?_, HJ.out.fill 8 8 _ (by decide) (.inr (.inr (.inr (.inl ⟨rfl, rfl, rfl⟩))))⟩
        simp only [fillT, List.setIfInBounds_toArray, List.set_cons_succ, List.set_cons_zero]
      · intro d xs W hd hE hJ
        obtain ⟨x0, x1, x2, x3, x4, x5, x6, x7, x8, x9, x10, x11, rfl⟩ := list12 hJ.len
        have e7 : d 7 = true := hE ⟨7, .data⟩ (by simp) rfl
        have q := hJ.mv e7
        obtain rfl : x7 = .tuple #[(GV.text b).val, .int .i64 0] := by simpa using q
        simp only [fillA, fillT, List.setIfInBounds_toArray, List.set_cons_succ, List.set_cons_zero]
        have HJ := Lib.hid hJ
        clear hJ hE
        go_wp2_with fail
        refine onlyK_normal ⟨_, ?_, HJ.out.fill 9 9 _ (by decide) (.inr (.inr (.inr (.inr (.inl ⟨rfl, rfl, rfl⟩)))))⟩
        simp only [fillT, List.setIfInBounds_toArray, List.set_cons_succ, List.set_cons_zero]
      · intro d xs W hd hE hJ
        obtain ⟨x0, x1, x2, x3, x4, x5, x6, x7, x8, x9, x10, x11, rfl⟩ := list12 hJ.len
        simp only [fillA, fillT, List.setIfInBounds_toArray, List.set_cons_succ, List.set_cons_zero]
        have HJ := Lib.hid hJ
        clear hJ hE
        go_wp2_with fail
        refine onlyK_normal ⟨_, ?_, HJ.out.block hd _⟩
        simp only [fillT, List.setIfInBounds_toArray, List.set_cons_succ, List.set_cons_zero]
      · intro d xs W hd hE hJ
        obtain ⟨x0, x1, x2, x3, x4, x5, x6, x7, x8, x9, x10, x11, rfl⟩ := list12 hJ.len
        have e10 : d 10 = true := hE ⟨10, .data⟩ (by simp) rfl
        have e8 : d 8 = true := hE ⟨8, .data⟩ (by simp) rfl
        have e6 : d 6 = true := hE ⟨6, .chain⟩ (by simp) rfl
        have q := hJ.ex0 e8
        obtain rfl : x8 = .agg #[.int .i64 3, .int .i64 0, .string b] := by simpa [GV.val, GV.text] using q
        have hJ2 := hJ.al e10
        obtain ⟨bb, hb1, hge, c0, c1, c2, hf⟩ := hJ2
        have hb2 := hb1
        obtain rfl : x10 = .pointer (some ⟨bb, 0, none⟩) := by simpa using hb1
        rw [hd] at c0 c1 c2
        simp only [Bool.false_eq_true, if_false] at c0 c1 c2
        have hbz := lt_of_cell c0
        simp only [fillA, fillT, List.setIfInBounds_toArray, List.set_cons_succ, List.set_cons_zero]
        have HJ := Lib.hid hJ
        have HE := Lib.hid e10
        have HE1 := Lib.hid e6
        clear hJ hE
        go_wp2_with fail
        refine onlyK_normal ⟨_, ?_, HJ.out.store HE.out HE1.out rfl⟩
        simp only [fillT, List.setIfInBounds_toArray, List.set_cons_succ, List.set_cons_zero]
      · intro d xs W hd hE hJ
        obtain ⟨x0, x1, x2, x3, x4, x5, x6, x7, x8, x9, x10, x11, rfl⟩ := list12 hJ.len
        have e9 : d 9 = true := hE ⟨9, .data⟩ (by simp) rfl
        have q := hJ.ex1 e9
        obtain rfl : x9 = .int .i64 0 := by simpa using q
        simp only [fillA, fillT, List.setIfInBounds_toArray, List.set_cons_succ, List.set_cons_zero]
        have HJ := Lib.hid hJ
        clear hJ hE
        go_wp2_with fail
        refine onlyK_normal ⟨_, ?_, HJ.out.fill 12 11 _ (by decide) (.inr (.inr (.inr (.inr (.inr ⟨rfl, rfl, rfl⟩)))))⟩
        simp only [fillT, List.setIfInBounds_toArray, List.set_cons_succ, List.set_cons_zero]
    · intro d xs w5 hd hJ
      obtain ⟨x0, x1, x2, x3, x4, x5, x6, x7, x8, x9, x10, x11, rfl⟩ := list12 hJ.len
      have q0 := hJ.head 0 (by decide) (hd 0 (by decide))
      obtain rfl : x0 = .agg #[.int .i64 3, .int .i64 0, .string s] := by simpa using q0
      clear q0
      have q1 := hJ.head 1 (by decide) (hd 1 (by decide))
      obtain rfl : x1 = .int .i64 n := by simpa using q1
      clear q1
      have q2 := hJ.head 2 (by decide) (hd 2 (by decide))
      obtain rfl : x2 = .int .i64 (n + 1) := by simpa using q2
      clear q2
      have q3 := hJ.head 3 (by decide) (hd 3 (by decide))
      obtain rfl : x3 = .agg #[.int .i64 2, .int .i64 (n + 1), .string ⟨#[]⟩] := by simpa using q3
      clear q3
      have q4 := hJ.head 4 (by decide) (hd 4 (by decide))
      obtain rfl : x4 = .agg #[.int .i64 2, .int .i64 5000, .string ⟨#[]⟩] := by simpa using q4
      clear q4
      have q := hJ.call (hd 6 (by decide))
      obtain rfl : x6 = .tuple #[(GV.text b).val, .int .i64 0] := by simpa using q
      clear q
      have q := hJ.mv (hd 7 (by decide))
      obtain rfl : x7 = .tuple #[(GV.text b).val, .int .i64 0] := by simpa using q
      clear q
      have q := hJ.ex0 (hd 8 (by decide))
      obtain rfl : x8 = (GV.text b).val := by simpa using q
      clear q
      have q := hJ.ex1 (hd 9 (by decide))
      obtain rfl : x9 = .int .i64 0 := by simpa using q
      clear q
      have q := hJ.asg (hd 12 (by decide))
      obtain rfl : x11 = .int .i64 0 := by simpa using q
      clear q
      obtain ⟨bb, hq, hgeb, c0, c1, c2, hfb⟩ := hJ.al (hd 10 (by decide))
      obtain rfl : x10 = .pointer (some ⟨bb, 0, none⟩) := by simpa using hq
      rw [hd 11 (by decide)] at c0 c1 c2
      have b0_5 : w5.cell? ⟨bb, 0, none⟩ = some (.int .i64 3) := c0
      have b1_5 : w5.cell? ⟨bb, 1, none⟩ = some (.int .i64 0) := c1
      have b2_5 : w5.cell? ⟨bb, 2, none⟩ = some (.string b) := c2
      have v0_5 := cell_below hJ.below v0R_4
      have v1_5 := cell_below hJ.below v1R_4
      have v2_5 := cell_below hJ.below v2R_4
      have o0_5 := cell_below hJ.below o0R_4
      have o1_5 := cell_below hJ.below o1R_4
      have o2_5 := cell_below hJ.below o2R_4
      have a0_5 := cell_below hJ.below a0R_4
      have a1_5 := cell_below hJ.below a1R_4
      have a2_5 := cell_below hJ.below a2R_4
      have hz_v0_5 := lt_of_cell v0_5
      have hz_o0_5 := lt_of_cell o0_5
      have hz_a0_5 := lt_of_cell a0_5
      have hz_b0_5 := lt_of_cell b0_5
      have B5 := later BR4 hJ.below
      clear hd hJ hq c0 c1 c2 hfb BR4 v0R_4 v1R_4 v2R_4 o0R_4 o1R_4 o2R_4 a0R_4 a1R_4 a2R_4
      unfold fillA
      simp only [fillT, List.setIfInBounds_toArray, List.set_cons_succ, List.set_cons_zero]
      go_wp2_with fail
      refine (cJ _).mono ?_
      rintro e w6 ⟨rfl, hb6⟩
      have v0_6 := cell_below hb6 (v0_5)
      have v1_6 := cell_below hb6 (v1_5)
      have v2_6 := cell_below hb6 (v2_5)
      have o0_6 := cell_below hb6 (o0_5)
      have o1_6 := cell_below hb6 (o1_5)
      have o2_6 := cell_below hb6 (o2_5)
      have a0_6 := cell_below hb6 (a0_5)
      have a1_6 := cell_below hb6 (a1_5)
      have a2_6 := cell_below hb6 (a2_5)
      have b0_6 := cell_below hb6 (b0_5)
      have b1_6 := cell_below hb6 (b1_5)
      have b2_6 := cell_below hb6 (b2_5)
      have B6 := later B5 hb6
      have hz_v0_6 := lt_of_cell v0_6
      have hz_o0_6 := lt_of_cell o0_6
      have hz_a0_6 := lt_of_cell a0_6
      have hz_b0_6 := lt_of_cell b0_6
      clear v0_5 v1_5 v2_5 o0_5 o1_5 o2_5 a0_5 a1_5 a2_5 b0_5 b1_5 b2_5 hz_v0_5 hz_o0_5 hz_a0_5 hz_b0_5
      go_wp2_with fail
      refine (cLa _ _ (VS.made [GV.text a] (by first | (with_reducible rfl) | simp | simp [go_sem]) rfl rfl (by simp)) (HM.out.below ((B6.alloc B6.size _).alloc (B6.alloc B6.size _).size _))).mono ?_
      rintro e w7 ⟨rfl, hb7⟩
      have v0_7 := cell_below hb7 (cell_alloc (cell_alloc (v0_6)))
      have v1_7 := cell_below hb7 (cell_alloc (cell_alloc (v1_6)))
      have v2_7 := cell_below hb7 (cell_alloc (cell_alloc (v2_6)))
      have o0_7 := cell_below hb7 (cell_alloc (cell_alloc (o0_6)))
      have o1_7 := cell_below hb7 (cell_alloc (cell_alloc (o1_6)))
      have o2_7 := cell_below hb7 (cell_alloc (cell_alloc (o2_6)))
      have a0_7 := cell_below hb7 (cell_alloc (cell_alloc (a0_6)))
      have a1_7 := cell_below hb7 (cell_alloc (cell_alloc (a1_6)))
      have a2_7 := cell_below hb7 (cell_alloc (cell_alloc (a2_6)))
      have b0_7 := cell_below hb7 (cell_alloc (cell_alloc (b0_6)))
      have b1_7 := cell_below hb7 (cell_alloc (cell_alloc (b1_6)))
      have b2_7 := cell_below hb7 (cell_alloc (cell_alloc (b2_6)))
      have j0_7 := cell_below hb7 (a := ⟨w6.heap.size, 0, none⟩) (v := .int .i64 3) (by simp [go_sem])
      have j1_7 := cell_below hb7 (a := ⟨w6.heap.size, 1, none⟩) (v := .int .i64 0) (by simp [go_sem])
      have j2_7 := cell_below hb7 (a := ⟨w6.heap.size, 2, none⟩) (v := .string s) (by simp [go_sem])
      have B7 := later ((B6.alloc B6.size _).alloc (B6.alloc B6.size _).size _) hb7
      have hz_v0_7 := lt_of_cell v0_7
      have hz_o0_7 := lt_of_cell o0_7
      have hz_a0_7 := lt_of_cell a0_7
      have hz_b0_7 := lt_of_cell b0_7
      have hz_j0_7 := lt_of_cell j0_7
      clear v0_6 v1_6 v2_6 o0_6 o1_6 o2_6 a0_6 a1_6 a2_6 b0_6 b1_6 b2_6 hz_v0_6 hz_o0_6 hz_a0_6 hz_b0_6
      go_wp2_with fail
      refine (cLb _ _ (VS.made [GV.text b] (by first | (with_reducible rfl) | simp | simp [go_sem]) rfl rfl (by simp)) (HM.out.below ((B7.alloc B7.size _).alloc (B7.alloc B7.size _).size _))).mono ?_
      rintro e w8 ⟨rfl, hb8⟩
      have v0_8 := cell_below hb8 (cell_alloc (cell_alloc (v0_7)))
      have v1_8 := cell_below hb8 (cell_alloc (cell_alloc (v1_7)))
      have v2_8 := cell_below hb8 (cell_alloc (cell_alloc (v2_7)))
      have o0_8 := cell_below hb8 (cell_alloc (cell_alloc (o0_7)))
      have o1_8 := cell_below hb8 (cell_alloc (cell_alloc (o1_7)))
      have o2_8 := cell_below hb8 (cell_alloc (cell_alloc (o2_7)))
      have a0_8 := cell_below hb8 (cell_alloc (cell_alloc (a0_7)))
      have a1_8 := cell_below hb8 (cell_alloc (cell_alloc (a1_7)))
      have a2_8 := cell_below hb8 (cell_alloc (cell_alloc (a2_7)))
      have b0_8 := cell_below hb8 (cell_alloc (cell_alloc (b0_7)))
      have b1_8 := cell_below hb8 (cell_alloc (cell_alloc (b1_7)))
      have b2_8 := cell_below hb8 (cell_alloc (cell_alloc (b2_7)))
      have j0_8 := cell_below hb8 (cell_alloc (cell_alloc (j0_7)))
      have j1_8 := cell_below hb8 (cell_alloc (cell_alloc (j1_7)))
      have j2_8 := cell_below hb8 (cell_alloc (cell_alloc (j2_7)))
      have la0_8 := cell_below hb8 (a := ⟨w7.heap.size, 0, none⟩) (v := .int .i64 2) (by simp [go_sem])
      have la1_8 := cell_below hb8 (a := ⟨w7.heap.size, 1, none⟩) (v := .int .i64 za) (by simp [go_sem])
      have la2_8 := cell_below hb8 (a := ⟨w7.heap.size, 2, none⟩) (v := .string ⟨#[]⟩) (by simp [go_sem])
      have B8 := later ((B7.alloc B7.size _).alloc (B7.alloc B7.size _).size _) hb8
      have hz_v0_8 := lt_of_cell v0_8
      have hz_o0_8 := lt_of_cell o0_8
      have hz_a0_8 := lt_of_cell a0_8
      have hz_b0_8 := lt_of_cell b0_8
      have hz_j0_8 := lt_of_cell j0_8
      have hz_la0_8 := lt_of_cell la0_8
      clear v0_7 v1_7 v2_7 o0_7 o1_7 o2_7 a0_7 a1_7 a2_7 b0_7 b1_7 b2_7 j0_7 j1_7 j2_7 hz_v0_7 hz_o0_7 hz_a0_7 hz_b0_7 hz_j0_7
      go_wp2_with fail
      refine (cLv _ _ (VS.made [GV.text s] (by first | (with_reducible rfl) | simp | simp [go_sem]) rfl rfl (by simp)) (HM.out.below ((B8.alloc B8.size _).alloc (B8.alloc B8.size _).size _))).mono ?_
      rintro e w9 ⟨rfl, hb9⟩
      have v0_9 := cell_below hb9 (cell_alloc (cell_alloc (v0_8)))
      have v1_9 := cell_below hb9 (cell_alloc (cell_alloc (v1_8)))
      have v2_9 := cell_below hb9 (cell_alloc (cell_alloc (v2_8)))
      have o0_9 := cell_below hb9 (cell_alloc (cell_alloc (o0_8)))
      have o1_9 := cell_below hb9 (cell_alloc (cell_alloc (o1_8)))
      have o2_9 := cell_below hb9 (cell_alloc (cell_alloc (o2_8)))
      have a0_9 := cell_below hb9 (cell_alloc (cell_alloc (a0_8)))
      have a1_9 := cell_below hb9 (cell_alloc (cell_alloc (a1_8)))
      have a2_9 := cell_below hb9 (cell_alloc (cell_alloc (a2_8)))
      have b0_9 := cell_below hb9 (cell_alloc (cell_alloc (b0_8)))
      have b1_9 := cell_below hb9 (cell_alloc (cell_alloc (b1_8)))
      have b2_9 := cell_below hb9 (cell_alloc (cell_alloc (b2_8)))
      have j0_9 := cell_below hb9 (cell_alloc (cell_alloc (j0_8)))
      have j1_9 := cell_below hb9 (cell_alloc (cell_alloc (j1_8)))
      have j2_9 := cell_below hb9 (cell_alloc (cell_alloc (j2_8)))
      have la0_9 := cell_below hb9 (cell_alloc (cell_alloc (la0_8)))
      have la1_9 := cell_below hb9 (cell_alloc (cell_alloc (la1_8)))
      have la2_9 := cell_below hb9 (cell_alloc (cell_alloc (la2_8)))
      have lb0_9 := cell_below hb9 (a := ⟨w8.heap.size, 0, none⟩) (v := .int .i64 2) (by simp [go_sem])
      have lb1_9 := cell_below hb9 (a := ⟨w8.heap.size, 1, none⟩) (v := .int .i64 zb) (by simp [go_sem])
      have lb2_9 := cell_below hb9 (a := ⟨w8.heap.size, 2, none⟩) (v := .string ⟨#[]⟩) (by simp [go_sem])
      have B9 := later ((B8.alloc B8.size _).alloc (B8.alloc B8.size _).size _) hb9
      have hz_v0_9 := lt_of_cell v0_9
      have hz_o0_9 := lt_of_cell o0_9
      have hz_a0_9 := lt_of_cell a0_9
      have hz_b0_9 := lt_of_cell b0_9
      have hz_j0_9 := lt_of_cell j0_9
      have hz_la0_9 := lt_of_cell la0_9
      have hz_lb0_9 := lt_of_cell lb0_9
      clear v0_8 v1_8 v2_8 o0_8 o1_8 o2_8 a0_8 a1_8 a2_8 b0_8 b1_8 b2_8 j0_8 j1_8 j2_8 la0_8 la1_8 la2_8 hz_v0_8 hz_o0_8 hz_a0_8 hz_b0_8 hz_j0_8 hz_la0_8
      go_wp2_with fail
      refine (cI _ _ (VS.made [GV.text s, GV.text b] (by first | (with_reducible rfl) | simp | simp [go_sem]) rfl rfl (by simp)) (HM.out.below ((B9.alloc B9.size _).alloc (B9.alloc B9.size _).size _))).mono ?_
      rintro e w10 ⟨rfl, hb10⟩
      have v0_10 := cell_below hb10 (cell_alloc (cell_alloc (v0_9)))
      have v1_10 := cell_below hb10 (cell_alloc (cell_alloc (v1_9)))
      have v2_10 := cell_below hb10 (cell_alloc (cell_alloc (v2_9)))
      have o0_10 := cell_below hb10 (cell_alloc (cell_alloc (o0_9)))
      have o1_10 := cell_below hb10 (cell_alloc (cell_alloc (o1_9)))
      have o2_10 := cell_below hb10 (cell_alloc (cell_alloc (o2_9)))
      have a0_10 := cell_below hb10 (cell_alloc (cell_alloc (a0_9)))
      have a1_10 := cell_below hb10 (cell_alloc (cell_alloc (a1_9)))
      have a2_10 := cell_below hb10 (cell_alloc (cell_alloc (a2_9)))
      have b0_10 := cell_below hb10 (cell_alloc (cell_alloc (b0_9)))
      have b1_10 := cell_below hb10 (cell_alloc (cell_alloc (b1_9)))
      have b2_10 := cell_below hb10 (cell_alloc (cell_alloc (b2_9)))
      have j0_10 := cell_below hb10 (cell_alloc (cell_alloc (j0_9)))
      have j1_10 := cell_below hb10 (cell_alloc (cell_alloc (j1_9)))
      have j2_10 := cell_below hb10 (cell_alloc (cell_alloc (j2_9)))
      have la0_10 := cell_below hb10 (cell_alloc (cell_alloc (la0_9)))
      have la1_10 := cell_below hb10 (cell_alloc (cell_alloc (la1_9)))
      have la2_10 := cell_below hb10 (cell_alloc (cell_alloc (la2_9)))
      have lb0_10 := cell_below hb10 (cell_alloc (cell_alloc (lb0_9)))
      have lb1_10 := cell_below hb10 (cell_alloc (cell_alloc (lb1_9)))
      have lb2_10 := cell_below hb10 (cell_alloc (cell_alloc (lb2_9)))
      have lv0_10 := cell_below hb10 (a := ⟨w9.heap.size, 0, none⟩) (v := .int .i64 2) (by simp [go_sem])
      have lv1_10 := cell_below hb10 (a := ⟨w9.heap.size, 1, none⟩) (v := .int .i64 zs) (by simp [go_sem])
      have lv2_10 := cell_below hb10 (a := ⟨w9.heap.size, 2, none⟩) (v := .string ⟨#[]⟩) (by simp [go_sem])
      have B10 := later ((B9.alloc B9.size _).alloc (B9.alloc B9.size _).size _) hb10
      have hz_v0_10 := lt_of_cell v0_10
      have hz_o0_10 := lt_of_cell o0_10
      have hz_a0_10 := lt_of_cell a0_10
      have hz_b0_10 := lt_of_cell b0_10
      have hz_j0_10 := lt_of_cell j0_10
      have hz_la0_10 := lt_of_cell la0_10
      have hz_lb0_10 := lt_of_cell lb0_10
      have hz_lv0_10 := lt_of_cell lv0_10
      clear v0_9 v1_9 v2_9 o0_9 o1_9 o2_9 a0_9 a1_9 a2_9 b0_9 b1_9 b2_9 j0_9 j1_9 j2_9 la0_9 la1_9 la2_9 lb0_9 lb1_9 lb2_9 hz_v0_9 hz_o0_9 hz_a0_9 hz_b0_9 hz_j0_9 hz_la0_9 hz_lb0_9
      go_wp2_with fail
      refine (cP _ _ (VS.made [GV.text s, GV.num at_, GV.num zb] (by first | (with_reducible rfl) | simp | simp [go_sem]) rfl rfl (by simp)) (HM.out.below ((B10.alloc B10.size _).alloc (B10.alloc B10.size _).size _))).mono ?_
      rintro e w11 ⟨rfl, hb11⟩
      have v0_11 := cell_below hb11 (cell_alloc (cell_alloc (v0_10)))
      have v1_11 := cell_below hb11 (cell_alloc (cell_alloc (v1_10)))
      have v2_11 := cell_below hb11 (cell_alloc (cell_alloc (v2_10)))
      have o0_11 := cell_below hb11 (cell_alloc (cell_alloc (o0_10)))
      have o1_11 := cell_below hb11 (cell_alloc (cell_alloc (o1_10)))
      have o2_11 := cell_below hb11 (cell_alloc (cell_alloc (o2_10)))
      have a0_11 := cell_below hb11 (cell_alloc (cell_alloc (a0_10)))
      have a1_11 := cell_below hb11 (cell_alloc (cell_alloc (a1_10)))
      have a2_11 := cell_below hb11 (cell_alloc (cell_alloc (a2_10)))
      have b0_11 := cell_below hb11 (cell_alloc (cell_alloc (b0_10)))
      have b1_11 := cell_below hb11 (cell_alloc (cell_alloc (b1_10)))
      have b2_11 := cell_below hb11 (cell_alloc (cell_alloc (b2_10)))
      have j0_11 := cell_below hb11 (cell_alloc (cell_alloc (j0_10)))
      have j1_11 := cell_below hb11 (cell_alloc (cell_alloc (j1_10)))
      have j2_11 := cell_below hb11 (cell_alloc (cell_alloc (j2_10)))
      have la0_11 := cell_below hb11 (cell_alloc (cell_alloc (la0_10)))
      have la1_11 := cell_below hb11 (cell_alloc (cell_alloc (la1_10)))
      have la2_11 := cell_below hb11 (cell_alloc (cell_alloc (la2_10)))
      have lb0_11 := cell_below hb11 (cell_alloc (cell_alloc (lb0_10)))
      have lb1_11 := cell_below hb11 (cell_alloc (cell_alloc (lb1_10)))
      have lb2_11 := cell_below hb11 (cell_alloc (cell_alloc (lb2_10)))
      have lv0_11 := cell_below hb11 (cell_alloc (cell_alloc (lv0_10)))
      have lv1_11 := cell_below hb11 (cell_alloc (cell_alloc (lv1_10)))
      have lv2_11 := cell_below hb11 (cell_alloc (cell_alloc (lv2_10)))
      have at0_11 := cell_below hb11 (a := ⟨w10.heap.size, 0, none⟩) (v := .int .i64 2) (by simp [go_sem])
      have at1_11 := cell_below hb11 (a := ⟨w10.heap.size, 1, none⟩) (v := .int .i64 at_) (by simp [go_sem])
      have at2_11 := cell_below hb11 (a := ⟨w10.heap.size, 2, none⟩) (v := .string ⟨#[]⟩) (by simp [go_sem])
      have B11 := later ((B10.alloc B10.size _).alloc (B10.alloc B10.size _).size _) hb11
      have hz_v0_11 := lt_of_cell v0_11
      have hz_o0_11 := lt_of_cell o0_11
      have hz_a0_11 := lt_of_cell a0_11
      have hz_b0_11 := lt_of_cell b0_11
      have hz_j0_11 := lt_of_cell j0_11
      have hz_la0_11 := lt_of_cell la0_11
      have hz_lb0_11 := lt_of_cell lb0_11
      have hz_lv0_11 := lt_of_cell lv0_11
      have hz_at0_11 := lt_of_cell at0_11
      clear v0_10 v1_10 v2_10 o0_10 o1_10 o2_10 a0_10 a1_10 a2_10 b0_10 b1_10 b2_10 j0_10 j1_10 j2_10 la0_10 la1_10 la2_10 lb0_10 lb1_10 lb2_10 lv0_10 lv1_10 lv2_10 hz_v0_10 hz_o0_10 hz_a0_10 hz_b0_10 hz_j0_10 hz_la0_10 hz_lb0_10 hz_lv0_10
      go_wp2
      go_returns
      exact Rets.bool rfl (B11.alloc B11.size _)

theorem parts_any (s : ByteArray) (n : Int) (w : World) (hm : SomeMax w) : Calls Tryd.prog 5 #[.string s, .int .i64 n] w (Rets (.bool true) w) := by
  by_cases h1 : (3000 : Int) < (s.size : Int)
  · exact parts_out s n w hm (.inl h1)
  by_cases h2 : n < 0
  · exact parts_out s n w hm (.inr (.inl ⟨h1, h2⟩))
  by_cases h3 : 4000 < n
  · exact parts_out s n w hm (.inr (.inr ⟨h1, h2, h3⟩))
  exact parts_in s n w hm h1 h2 h3
end Go.Proofs.YtddnkjeogidfcaaDoor
