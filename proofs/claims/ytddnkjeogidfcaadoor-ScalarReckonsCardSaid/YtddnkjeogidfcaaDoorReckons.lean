/-  ScalarReckons: the walk. -/
import Derived.Test.YtddnkjeogidfcaaDoorLive
import Derived.Test.YtddnkjeogidfcaaDoorBig
import Derived.Test.YtddnkjeogidfcaaDoorRefN
import Derived.Test.YtddnkjeogidfcaaDoorRefJ
namespace Go.Proofs.YtddnkjeogidfcaaDoor
open Go.RowKit Go.Shelf Go

theorem gv_tuple {f : FuncId} {args : Array Value} {w : World} {p r : GV} {q e : Int} (h : Calls Tryd.prog f args w (Rets (.tuple #[p.val, .int .i64 q]) w)) (hp : p = r) (hq : q = e) :
    Calls Tryd.prog f args w (Rets (.tuple #[.agg #[.int .i64 r.k, .int .i64 r.i, .string r.s], .int .i64 e]) w) := by subst hp hq; exact h

set_option maxRecDepth 100000 in
set_option maxHeartbeats 8000000 in
theorem reckons_big (op : ByteArray) (a b : GV) (w : World) (hm : SomeMax w) (ha : I64 a.i) (hb : I64 b.i) (hsa : a.s.size ≤ 281474976710656) (hsb : b.s.size ≤ 281474976710656) (hf : few2 a b = false) : Calls Tryd.prog 3 #[.string op, a.val, b.val] w (Rets (.bool true) w) := by
  have cL := fun W (h : SomeMax W) => live_true W h
  have cBig := fun row W (hv : VS W row [a, b]) => law_big2 a b row W hv hsa hsb
  rw [hf] at cBig
  obtain ⟨ak, ai, as_⟩ := a
  obtain ⟨bk, bi, bs⟩ := b
  simp only [GV.val] at *
  have HM := Lib.hid hm
  clear hm hf hsa hsb ha hb
  go_enter Tryd.func3, Tryd.ntmps3
  go_wp2_with fail
  refine (cL _ (HM.out.below (((Below.refl w.heap.size w).alloc (Below.refl w.heap.size w).size _).alloc ((Below.refl w.heap.size w).alloc (Below.refl w.heap.size w).size _).size _))).mono ?_
  rintro e w1 ⟨rfl, hb1⟩
  have a0_1 := cell_below hb1 (a := ⟨w.heap.size, 0, none⟩) (v := .int .i64 ak) (by simp [go_sem])
  have a1_1 := cell_below hb1 (a := ⟨w.heap.size, 1, none⟩) (v := .int .i64 ai) (by simp [go_sem])
  have a2_1 := cell_below hb1 (a := ⟨w.heap.size, 2, none⟩) (v := .string as_) (by simp [go_sem])
  have b0_1 := cell_below hb1 (a := ⟨w.heap.size + 1, 0, none⟩) (v := .int .i64 bk) (by simp [go_sem])
  have b1_1 := cell_below hb1 (a := ⟨w.heap.size + 1, 1, none⟩) (v := .int .i64 bi) (by simp [go_sem])
  have b2_1 := cell_below hb1 (a := ⟨w.heap.size + 1, 2, none⟩) (v := .string bs) (by simp [go_sem])
  have B1 := later (((Below.refl w.heap.size w).alloc (Below.refl w.heap.size w).size _).alloc ((Below.refl w.heap.size w).alloc (Below.refl w.heap.size w).size _).size _) hb1
  have hz_a0_1 := lt_of_cell a0_1
  have hz_b0_1 := lt_of_cell b0_1
  go_wp2_with fail
  refine (cBig _ _ (VS.made [(⟨ak, ai, as_⟩ : GV), (⟨bk, bi, bs⟩ : GV)] (by first | (with_reducible rfl) | simp | simp [go_sem]) rfl rfl (by simp))).mono ?_
  rintro e w2 ⟨rfl, hb2⟩
  have a0_2 := cell_below hb2 (cell_alloc (a0_1))
  have a1_2 := cell_below hb2 (cell_alloc (a1_1))
  have a2_2 := cell_below hb2 (cell_alloc (a2_1))
  have b0_2 := cell_below hb2 (cell_alloc (b0_1))
  have b1_2 := cell_below hb2 (cell_alloc (b1_1))
  have b2_2 := cell_below hb2 (cell_alloc (b2_1))
  have B2 := later (B1.alloc B1.size _) hb2
  have hz_a0_2 := lt_of_cell a0_2
  have hz_b0_2 := lt_of_cell b0_2
  clear a0_1 a1_1 a2_1 b0_1 b1_1 b2_1 hz_a0_1 hz_b0_1
  go_wp2
  go_returns
  exact Rets.bool rfl B2

set_option maxRecDepth 100000 in
set_option maxHeartbeats 8000000 in
theorem reckons_few (op : ByteArray) (a b : GV) (w : World) (hm : SomeMax w) (ha : I64 a.i) (hb : I64 b.i) (hsa : a.s.size ≤ 281474976710656) (hsb : b.s.size ≤ 281474976710656) (hf : few2 a b = true) : Calls Tryd.prog 3 #[.string op, a.val, b.val] w (Rets (.bool true) w) := by
  have cL := fun W (h : SomeMax W) => live_true W h
  have cBig := fun row W (hv : VS W row [a, b]) => law_big2 a b row W hv hsa hsb
  rw [hf] at cBig
  have hjs : a.s.size + b.s.size ≤ 9223372036854775807 := by omega
  obtain ⟨⟨ra, ea⟩, hra⟩ : ∃ p, arithS op.toList a b = p := ⟨_, rfl⟩
  obtain ⟨⟨rn, en⟩, hrn⟩ : ∃ p, arithS [45] (GV.num 0) a = p := ⟨_, rfl⟩
  obtain ⟨⟨rj, ej⟩, hrj⟩ : ∃ p, joinS a b = p := ⟨_, rfl⟩
  have cA := fun W => gv_tuple (scalar_Arith op a b W ha hb) (r := ra) (e := ea) (by rw [hra]) (by rw [hra])
  have cA2 := fun W => gv_tuple (ref_Arith op a b W ha hb) (r := ra) (e := ea) (by rw [hra]) (by rw [hra])
  have cN := fun W => gv_tuple (scalar_Neg a W ha) (r := rn) (e := en) (by rw [hrn]) (by rw [hrn])
  have cN2 := fun W => gv_tuple (ref_Neg a W ha) (r := rn) (e := en) (by rw [hrn]) (by rw [hrn])
  have cJ := fun W => gv_tuple (scalar_Join a b W ha hb hjs) (r := rj) (e := ej) (by rw [hrj]) (by rw [hrj])
  have cJ2 := fun W => gv_tuple (ref_Join a b W hjs) (r := rj) (e := ej) (by rw [hrj]) (by rw [hrj])
  clear hra hrn hrj hjs
  obtain ⟨ak, ai, as_⟩ := a
  obtain ⟨bk, bi, bs⟩ := b
  simp only [GV.val] at *
  have HM := Lib.hid hm
  clear hm hf hsa hsb ha hb
  go_enter Tryd.func3, Tryd.ntmps3
  go_wp2_with fail
  refine (cL _ (HM.out.below (((Below.refl w.heap.size w).alloc (Below.refl w.heap.size w).size _).alloc ((Below.refl w.heap.size w).alloc (Below.refl w.heap.size w).size _).size _))).mono ?_
  rintro e w1 ⟨rfl, hb1⟩
  have a0_1 := cell_below hb1 (a := ⟨w.heap.size, 0, none⟩) (v := .int .i64 ak) (by simp [go_sem])
  have a1_1 := cell_below hb1 (a := ⟨w.heap.size, 1, none⟩) (v := .int .i64 ai) (by simp [go_sem])
  have a2_1 := cell_below hb1 (a := ⟨w.heap.size, 2, none⟩) (v := .string as_) (by simp [go_sem])
  have b0_1 := cell_below hb1 (a := ⟨w.heap.size + 1, 0, none⟩) (v := .int .i64 bk) (by simp [go_sem])
  have b1_1 := cell_below hb1 (a := ⟨w.heap.size + 1, 1, none⟩) (v := .int .i64 bi) (by simp [go_sem])
  have b2_1 := cell_below hb1 (a := ⟨w.heap.size + 1, 2, none⟩) (v := .string bs) (by simp [go_sem])
  have B1 := later (((Below.refl w.heap.size w).alloc (Below.refl w.heap.size w).size _).alloc ((Below.refl w.heap.size w).alloc (Below.refl w.heap.size w).size _).size _) hb1
  have hz_a0_1 := lt_of_cell a0_1
  have hz_b0_1 := lt_of_cell b0_1
  go_wp2_with fail
  refine (cBig _ _ (VS.made [(⟨ak, ai, as_⟩ : GV), (⟨bk, bi, bs⟩ : GV)] (by first | (with_reducible rfl) | simp | simp [go_sem]) rfl rfl (by simp))).mono ?_
  rintro e w2 ⟨rfl, hb2⟩
  have a0_2 := cell_below hb2 (cell_alloc (a0_1))
  have a1_2 := cell_below hb2 (cell_alloc (a1_1))
  have a2_2 := cell_below hb2 (cell_alloc (a2_1))
  have b0_2 := cell_below hb2 (cell_alloc (b0_1))
  have b1_2 := cell_below hb2 (cell_alloc (b1_1))
  have b2_2 := cell_below hb2 (cell_alloc (b2_1))
  have B2 := later (B1.alloc B1.size _) hb2
  have hz_a0_2 := lt_of_cell a0_2
  have hz_b0_2 := lt_of_cell b0_2
  clear a0_1 a1_1 a2_1 b0_1 b1_1 b2_1 hz_a0_1 hz_b0_1
  go_wp2_with fail
  refine (cA _).mono ?_
  rintro e w3 ⟨rfl, hb3⟩
  have a0_3 := cell_below hb3 (a0_2)
  have a1_3 := cell_below hb3 (a1_2)
  have a2_3 := cell_below hb3 (a2_2)
  have b0_3 := cell_below hb3 (b0_2)
  have b1_3 := cell_below hb3 (b1_2)
  have b2_3 := cell_below hb3 (b2_2)
  have B3 := later B2 hb3
  have hz_a0_3 := lt_of_cell a0_3
  have hz_b0_3 := lt_of_cell b0_3
  clear a0_2 a1_2 a2_2 b0_2 b1_2 b2_2 hz_a0_2 hz_b0_2
  go_wp2_with fail
  refine (cA2 _).mono ?_
  rintro e w4 ⟨rfl, hb4⟩
  have a0_4 := cell_below hb4 (cell_alloc (a0_3))
  have a1_4 := cell_below hb4 (cell_alloc (a1_3))
  have a2_4 := cell_below hb4 (cell_alloc (a2_3))
  have b0_4 := cell_below hb4 (cell_alloc (b0_3))
  have b1_4 := cell_below hb4 (cell_alloc (b1_3))
  have b2_4 := cell_below hb4 (cell_alloc (b2_3))
  have vcA0_4 := cell_below hb4 (a := ⟨w3.heap.size, 0, none⟩) (v := .int .i64 ra.k) (by simp [go_sem])
  have vcA1_4 := cell_below hb4 (a := ⟨w3.heap.size, 1, none⟩) (v := .int .i64 ra.i) (by simp [go_sem])
  have vcA2_4 := cell_below hb4 (a := ⟨w3.heap.size, 2, none⟩) (v := .string ra.s) (by simp [go_sem])
  have B4 := later (B3.alloc B3.size _) hb4
  have hz_a0_4 := lt_of_cell a0_4
  have hz_b0_4 := lt_of_cell b0_4
  have hz_vcA0_4 := lt_of_cell vcA0_4
  clear a0_3 a1_3 a2_3 b0_3 b1_3 b2_3 hz_a0_3 hz_b0_3
  go_wp2_with fail
  refine (cN _).mono ?_
  rintro e w5 ⟨rfl, hb5⟩
  have a0_5 := cell_below hb5 (cell_alloc (a0_4))
  have a1_5 := cell_below hb5 (cell_alloc (a1_4))
  have a2_5 := cell_below hb5 (cell_alloc (a2_4))
  have b0_5 := cell_below hb5 (cell_alloc (b0_4))
  have b1_5 := cell_below hb5 (cell_alloc (b1_4))
  have b2_5 := cell_below hb5 (cell_alloc (b2_4))
  have vcA0_5 := cell_below hb5 (cell_alloc (vcA0_4))
  have vcA1_5 := cell_below hb5 (cell_alloc (vcA1_4))
  have vcA2_5 := cell_below hb5 (cell_alloc (vcA2_4))
  have vcA20_5 := cell_below hb5 (a := ⟨w4.heap.size, 0, none⟩) (v := .int .i64 ra.k) (by simp [go_sem])
  have vcA21_5 := cell_below hb5 (a := ⟨w4.heap.size, 1, none⟩) (v := .int .i64 ra.i) (by simp [go_sem])
  have vcA22_5 := cell_below hb5 (a := ⟨w4.heap.size, 2, none⟩) (v := .string ra.s) (by simp [go_sem])
  have B5 := later (B4.alloc B4.size _) hb5
  have hz_a0_5 := lt_of_cell a0_5
  have hz_b0_5 := lt_of_cell b0_5
  have hz_vcA0_5 := lt_of_cell vcA0_5
  have hz_vcA20_5 := lt_of_cell vcA20_5
  clear a0_4 a1_4 a2_4 b0_4 b1_4 b2_4 vcA0_4 vcA1_4 vcA2_4 hz_a0_4 hz_b0_4 hz_vcA0_4
  go_wp2_with fail
  refine (cN2 _).mono ?_
  rintro e w6 ⟨rfl, hb6⟩
  have a0_6 := cell_below hb6 (cell_alloc (a0_5))
  have a1_6 := cell_below hb6 (cell_alloc (a1_5))
  have a2_6 := cell_below hb6 (cell_alloc (a2_5))
  have b0_6 := cell_below hb6 (cell_alloc (b0_5))
  have b1_6 := cell_below hb6 (cell_alloc (b1_5))
  have b2_6 := cell_below hb6 (cell_alloc (b2_5))
  have vcA0_6 := cell_below hb6 (cell_alloc (vcA0_5))
  have vcA1_6 := cell_below hb6 (cell_alloc (vcA1_5))
  have vcA2_6 := cell_below hb6 (cell_alloc (vcA2_5))
  have vcA20_6 := cell_below hb6 (cell_alloc (vcA20_5))
  have vcA21_6 := cell_below hb6 (cell_alloc (vcA21_5))
  have vcA22_6 := cell_below hb6 (cell_alloc (vcA22_5))
  have vcN0_6 := cell_below hb6 (a := ⟨w5.heap.size, 0, none⟩) (v := .int .i64 rn.k) (by simp [go_sem])
  have vcN1_6 := cell_below hb6 (a := ⟨w5.heap.size, 1, none⟩) (v := .int .i64 rn.i) (by simp [go_sem])
  have vcN2_6 := cell_below hb6 (a := ⟨w5.heap.size, 2, none⟩) (v := .string rn.s) (by simp [go_sem])
  have B6 := later (B5.alloc B5.size _) hb6
  have hz_a0_6 := lt_of_cell a0_6
  have hz_b0_6 := lt_of_cell b0_6
  have hz_vcA0_6 := lt_of_cell vcA0_6
  have hz_vcA20_6 := lt_of_cell vcA20_6
  have hz_vcN0_6 := lt_of_cell vcN0_6
  clear a0_5 a1_5 a2_5 b0_5 b1_5 b2_5 vcA0_5 vcA1_5 vcA2_5 vcA20_5 vcA21_5 vcA22_5 hz_a0_5 hz_b0_5 hz_vcA0_5 hz_vcA20_5
  go_wp2_with fail
  refine (cJ _).mono ?_
  rintro e w7 ⟨rfl, hb7⟩
  have a0_7 := cell_below hb7 (cell_alloc (a0_6))
  have a1_7 := cell_below hb7 (cell_alloc (a1_6))
  have a2_7 := cell_below hb7 (cell_alloc (a2_6))
  have b0_7 := cell_below hb7 (cell_alloc (b0_6))
  have b1_7 := cell_below hb7 (cell_alloc (b1_6))
  have b2_7 := cell_below hb7 (cell_alloc (b2_6))
  have vcA0_7 := cell_below hb7 (cell_alloc (vcA0_6))
  have vcA1_7 := cell_below hb7 (cell_alloc (vcA1_6))
  have vcA2_7 := cell_below hb7 (cell_alloc (vcA2_6))
  have vcA20_7 := cell_below hb7 (cell_alloc (vcA20_6))
  have vcA21_7 := cell_below hb7 (cell_alloc (vcA21_6))
  have vcA22_7 := cell_below hb7 (cell_alloc (vcA22_6))
  have vcN0_7 := cell_below hb7 (cell_alloc (vcN0_6))
  have vcN1_7 := cell_below hb7 (cell_alloc (vcN1_6))
  have vcN2_7 := cell_below hb7 (cell_alloc (vcN2_6))
  have vcN20_7 := cell_below hb7 (a := ⟨w6.heap.size, 0, none⟩) (v := .int .i64 rn.k) (by simp [go_sem])
  have vcN21_7 := cell_below hb7 (a := ⟨w6.heap.size, 1, none⟩) (v := .int .i64 rn.i) (by simp [go_sem])
  have vcN22_7 := cell_below hb7 (a := ⟨w6.heap.size, 2, none⟩) (v := .string rn.s) (by simp [go_sem])
  have B7 := later (B6.alloc B6.size _) hb7
  have hz_a0_7 := lt_of_cell a0_7
  have hz_b0_7 := lt_of_cell b0_7
  have hz_vcA0_7 := lt_of_cell vcA0_7
  have hz_vcA20_7 := lt_of_cell vcA20_7
  have hz_vcN0_7 := lt_of_cell vcN0_7
  have hz_vcN20_7 := lt_of_cell vcN20_7
  clear a0_6 a1_6 a2_6 b0_6 b1_6 b2_6 vcA0_6 vcA1_6 vcA2_6 vcA20_6 vcA21_6 vcA22_6 vcN0_6 vcN1_6 vcN2_6 hz_a0_6 hz_b0_6 hz_vcA0_6 hz_vcA20_6 hz_vcN0_6
  go_wp2_with fail
  refine (cJ2 _).mono ?_
  rintro e w8 ⟨rfl, hb8⟩
  have a0_8 := cell_below hb8 (cell_alloc (a0_7))
  have a1_8 := cell_below hb8 (cell_alloc (a1_7))
  have a2_8 := cell_below hb8 (cell_alloc (a2_7))
  have b0_8 := cell_below hb8 (cell_alloc (b0_7))
  have b1_8 := cell_below hb8 (cell_alloc (b1_7))
  have b2_8 := cell_below hb8 (cell_alloc (b2_7))
  have vcA0_8 := cell_below hb8 (cell_alloc (vcA0_7))
  have vcA1_8 := cell_below hb8 (cell_alloc (vcA1_7))
  have vcA2_8 := cell_below hb8 (cell_alloc (vcA2_7))
  have vcA20_8 := cell_below hb8 (cell_alloc (vcA20_7))
  have vcA21_8 := cell_below hb8 (cell_alloc (vcA21_7))
  have vcA22_8 := cell_below hb8 (cell_alloc (vcA22_7))
  have vcN0_8 := cell_below hb8 (cell_alloc (vcN0_7))
  have vcN1_8 := cell_below hb8 (cell_alloc (vcN1_7))
  have vcN2_8 := cell_below hb8 (cell_alloc (vcN2_7))
  have vcN20_8 := cell_below hb8 (cell_alloc (vcN20_7))
  have vcN21_8 := cell_below hb8 (cell_alloc (vcN21_7))
  have vcN22_8 := cell_below hb8 (cell_alloc (vcN22_7))
  have vcJ0_8 := cell_below hb8 (a := ⟨w7.heap.size, 0, none⟩) (v := .int .i64 rj.k) (by simp [go_sem])
  have vcJ1_8 := cell_below hb8 (a := ⟨w7.heap.size, 1, none⟩) (v := .int .i64 rj.i) (by simp [go_sem])
  have vcJ2_8 := cell_below hb8 (a := ⟨w7.heap.size, 2, none⟩) (v := .string rj.s) (by simp [go_sem])
  have B8 := later (B7.alloc B7.size _) hb8
  have hz_a0_8 := lt_of_cell a0_8
  have hz_b0_8 := lt_of_cell b0_8
  have hz_vcA0_8 := lt_of_cell vcA0_8
  have hz_vcA20_8 := lt_of_cell vcA20_8
  have hz_vcN0_8 := lt_of_cell vcN0_8
  have hz_vcN20_8 := lt_of_cell vcN20_8
  have hz_vcJ0_8 := lt_of_cell vcJ0_8
  clear a0_7 a1_7 a2_7 b0_7 b1_7 b2_7 vcA0_7 vcA1_7 vcA2_7 vcA20_7 vcA21_7 vcA22_7 vcN0_7 vcN1_7 vcN2_7 vcN20_7 vcN21_7 vcN22_7 hz_a0_7 hz_b0_7 hz_vcA0_7 hz_vcA20_7 hz_vcN0_7 hz_vcN20_7
  go_wp2
  go_returns
  exact Rets.bool rfl (B8.alloc B8.size _)

theorem reckons_any (op : ByteArray) (a b : GV) (w : World) (hm : SomeMax w) (ha : I64 a.i) (hb : I64 b.i) (hsa : a.s.size ≤ 281474976710656) (hsb : b.s.size ≤ 281474976710656) : Calls Tryd.prog 3 #[.string op, a.val, b.val] w (Rets (.bool true) w) := by
  cases hf : few2 a b with
  | false => exact reckons_big op a b w hm ha hb hsa hsb hf
  | true => exact reckons_few op a b w hm ha hb hsa hsb hf
end Go.Proofs.YtddnkjeogidfcaaDoor
