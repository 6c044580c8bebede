/-  ScalarNulls: the walk. -/
import Derived.Test.YtddnkjeogidfcaaDoorLive
import Derived.Test.YtddnkjeogidfcaaDoorBig
namespace Go.Proofs.YtddnkjeogidfcaaDoor
open Go.RowKit Go.Shelf Go

def bCoalesce : ByteArray := ⟨#[99, 111, 97, 108, 101, 115, 99, 101]⟩
def bNullif : ByteArray := ⟨#[110, 117, 108, 108, 105, 102]⟩

theorem ok_zero {v : GV} (h : v.ok = true) (hk : v.k = 0) : v = GV.none := by
  obtain ⟨k, i, s⟩ := v
  simp only at hk
  subst hk
  unfold GV.ok at h
  simp at h
  obtain ⟨rfl, hs⟩ := h
  unfold GV.none
  congr 1
  exact bytes_eq (by rw [hs, Go.ByteArray.toList_eq])

theorem coalesce_none (v : GV) (hi : I64 v.i) (hok : v.ok = true) (vv : Value) (W : World) (hv : VS W vv [GV.none, v]) :
    Calls Tryd.prog 18 #[.string bCoalesce, vv] W (Rets (.tuple #[v.val, .int .i64 0]) W) := by
  have hck : ∀ W, VS W vv [GV.none, v] → Calls Tryd.prog 22 #[vv] W (Rets (.bool true) W) := fun W hW => by
    have := scalar_check vv _ W hW (fun x hx => by
      simp only [List.mem_cons, List.not_mem_nil, or_false] at hx
      rcases hx with rfl | rfl
      · unfold GV.none I64; simp
      · exact hi)
    rwa [show [GV.none, v].all GV.ok = true from by simp [none_ok, hok]] at this
  have har := fun W => arity_of bCoalesce W 1 (-1) true (by rw [Go.ByteArray.toList_eq]; decide)
  by_cases hk : v.k = 0
  · have := ok_zero hok hk
    subst this
    exact Call_coalesce bCoalesce vv _ W hv 1 (-1) true har hck (by simp) (by decide) (by rw [Go.ByteArray.toList_eq]; decide) 0 GV.none rfl (by decide)
  · refine Call_coalesce bCoalesce vv _ W hv 1 (-1) true har hck (by simp) (by decide) (by rw [Go.ByteArray.toList_eq]; decide) 1 v rfl ?_
    have : idxOf (fun v => v.k != 0) [GV.none, v] = 1 := idxOf_hit (k := 1) rfl (by simpa using hk) (fun j y hj hy => by
      obtain rfl : j = 0 := by omega
      cases hy; rfl)
    rw [this]; rfl

theorem nullif_same (v : GV) (hi : I64 v.i) (hok : v.ok = true) (vv : Value) (W : World) (hv : VS W vv [v, v]) :
    Calls Tryd.prog 18 #[.string bNullif, vv] W (Rets (.tuple #[GV.none.val, .int .i64 0]) W) := by
  have hck : ∀ W, VS W vv [v, v] → Calls Tryd.prog 22 #[vv] W (Rets (.bool true) W) := fun W hW => by
    have := scalar_check vv _ W hW (fun x hx => by
      simp only [List.mem_cons, List.not_mem_nil, or_false] at hx
      rcases hx with rfl | rfl <;> exact hi)
    rwa [show [v, v].all GV.ok = true from by simp [hok]] at this
  have har := fun W => arity_of bNullif W 2 2 true (by rw [Go.ByteArray.toList_eq]; decide)
  exact Call_nullif bNullif vv _ W hv 2 2 true har hck (by simp) (.inr (by simp)) (by rw [Go.ByteArray.toList_eq]; decide) (by rw [Go.ByteArray.toList_eq]; decide) v v rfl rfl true ((sameB_iff v v).2 rfl) GV.none rfl

theorem bad_none (kd : Int) : badArg GV.none kd = false := rfl

theorem call_nulls (name : ByteArray) (i : Nat) (h1 : (name.toList == sCoalesce) = false) (h2 : (name.toList == sNullif) = false) (hpos : posOf name.toList = i) (l : List GV) (hl : ∀ (j : Nat) (x : GV), l[j]? = some x → x = GV.none) (h0 : l ≠ []) (v : Value) (w : World) (hv : VS w v l) (hmax : SomeMax w) (hlen : l.length = (kindsOf.getD i []).length) :
    Calls Tryd.prog 18 #[.string name, v] w (Rets (.tuple #[GV.none.val, .int .i64 0]) w) := by
  have hx : ∀ x, x ∈ l → x = GV.none := fun x hm => by obtain ⟨j, _, he⟩ := List.getElem_of_mem hm; exact hl j x (by rw [← he]; exact List.getElem?_eq_getElem _)
  refine call_fn name i h1 h2 hpos l v w hv hmax (fun x hm => by rw [hx x hm]; unfold GV.none I64; simp) (List.all_eq_true.2 fun x hm => by rw [hx x hm]; exact none_ok) hlen (GV.none, 0) ?_ (fun _ _ => rfl) ?_
  · rintro ⟨j, x, kd, hj, hk, hb⟩
    rw [hl j x hj, bad_none] at hb; cases hb
  · intro _ hn
    obtain ⟨x, l', rfl⟩ := List.exists_cons_of_ne_nil h0
    rw [hx x (by simp)] at hn
    simp [GV.none] at hn

set_option maxRecDepth 100000 in
set_option maxHeartbeats 4000000 in
theorem nulls_big (v : GV) (name : ByteArray) (w : World) (hm : SomeMax w) (hs : v.s.size ≤ 281474976710656) (hf : few1 v = false) : Calls Tryd.prog 6 #[v.val, .string name] w (Rets (.bool true) w) := by
  have cL := fun W (h : SomeMax W) => live_true W h
  have cBig := fun row W (hv : VS W row [v]) => law_big1 v row W hv hs
  rw [hf] at cBig
  obtain ⟨k, i, s⟩ := v
  simp only [GV.val] at *
  have HM := Lib.hid hm
  clear hm hf hs
  go_enter Tryd.func6, Tryd.ntmps6
  go_wp2_with fail
  refine (cL _ (HM.out.below ((Below.refl w.heap.size w).alloc (Nat.le_refl _) _))).mono ?_
  rintro e w1 ⟨rfl, hb1⟩
  have v0_1 := cell_below hb1 (a := ⟨w.heap.size, 0, none⟩) (v := .int .i64 k) (by simp [go_sem])
  have v1_1 := cell_below hb1 (a := ⟨w.heap.size, 1, none⟩) (v := .int .i64 i) (by simp [go_sem])
  have v2_1 := cell_below hb1 (a := ⟨w.heap.size, 2, none⟩) (v := .string s) (by simp [go_sem])
  have B1 := later ((Below.refl w.heap.size w).alloc (Below.refl w.heap.size w).size _) hb1
  have hz_v0_1 := lt_of_cell v0_1
  go_wp2_with fail
  refine (cBig _ _ (VS.made [(⟨k, i, s⟩ : GV)] (by first | (with_reducible rfl) | simp | simp [go_sem]) rfl rfl (by simp))).mono ?_
  rintro e w2 ⟨rfl, hb2⟩
  have v0_2 := cell_below hb2 (cell_alloc (v0_1))
  have v1_2 := cell_below hb2 (cell_alloc (v1_1))
  have v2_2 := cell_below hb2 (cell_alloc (v2_1))
  have B2 := later (B1.alloc B1.size _) hb2
  have hz_v0_2 := lt_of_cell v0_2
  clear v0_1 v1_1 v2_1 hz_v0_1
  go_wp2
  go_returns
  exact Rets.bool rfl B2

set_option maxRecDepth 100000 in
set_option maxHeartbeats 4000000 in
theorem nulls_bad (v : GV) (name : ByteArray) (w : World) (hm : SomeMax w) (hs : v.s.size ≤ 281474976710656) (hf : few1 v = true) (hok : v.ok = false) : Calls Tryd.prog 6 #[v.val, .string name] w (Rets (.bool true) w) := by
  have cL := fun W (h : SomeMax W) => live_true W h
  have cBig := fun row W (hv : VS W row [v]) => law_big1 v row W hv hs
  rw [hf] at cBig
  have cC := fun W => ref_Check v W
  rw [hok] at cC
  obtain ⟨k, i, s⟩ := v
  unfold okNo at cC
  simp only [Bool.false_eq_true, if_false] at cC
  simp only [GV.val] at *
  have HM := Lib.hid hm
  clear hm hf hs hok
  go_enter Tryd.func6, Tryd.ntmps6
  go_wp2_with fail
  refine (cL _ (HM.out.below ((Below.refl w.heap.size w).alloc (Nat.le_refl _) _))).mono ?_
  rintro e w1 ⟨rfl, hb1⟩
  have v0_1 := cell_below hb1 (a := ⟨w.heap.size, 0, none⟩) (v := .int .i64 k) (by simp [go_sem])
  have v1_1 := cell_below hb1 (a := ⟨w.heap.size, 1, none⟩) (v := .int .i64 i) (by simp [go_sem])
  have v2_1 := cell_below hb1 (a := ⟨w.heap.size, 2, none⟩) (v := .string s) (by simp [go_sem])
  have B1 := later ((Below.refl w.heap.size w).alloc (Below.refl w.heap.size w).size _) hb1
  have hz_v0_1 := lt_of_cell v0_1
  go_wp2_with fail
  refine (cBig _ _ (VS.made [(⟨k, i, s⟩ : GV)] (by first | (with_reducible rfl) | simp | simp [go_sem]) rfl rfl (by simp))).mono ?_
  rintro e w2 ⟨rfl, hb2⟩
  have v0_2 := cell_below hb2 (cell_alloc (v0_1))
  have v1_2 := cell_below hb2 (cell_alloc (v1_1))
  have v2_2 := cell_below hb2 (cell_alloc (v2_1))
  have B2 := later (B1.alloc B1.size _) hb2
  have hz_v0_2 := lt_of_cell v0_2
  clear v0_1 v1_1 v2_1 hz_v0_1
  go_wp2_with fail
  refine (cC _).mono ?_
  rintro e w3 ⟨rfl, hb3⟩
  have v0_3 := cell_below hb3 (v0_2)
  have v1_3 := cell_below hb3 (v1_2)
  have v2_3 := cell_below hb3 (v2_2)
  have B3 := later B2 hb3
  have hz_v0_3 := lt_of_cell v0_3
  clear v0_2 v1_2 v2_2 hz_v0_2
  go_wp2
  go_returns
  exact Rets.bool rfl B3

set_option maxRecDepth 100000 in
set_option maxHeartbeats 4000000 in
theorem nulls_no (v : GV) (name : ByteArray) (w : World) (hm : SomeMax w) (hs : v.s.size ≤ 281474976710656) (hf : few1 v = true) (hok : v.ok = true) (hi : I64 v.i) (lo hi2 : Int) (har : arityS name.toList = (lo, hi2, false)) : Calls Tryd.prog 6 #[v.val, .string name] w (Rets (.bool true) w) := by
  have cL := fun W (h : SomeMax W) => live_true W h
  have cBig := fun row W (hv : VS W row [v]) => law_big1 v row W hv hs
  rw [hf] at cBig
  have cC := fun W => ref_Check v W
  rw [hok] at cC
  have cK := fun vv W hv => coalesce_none v hi hok vv W hv
  have cN := fun vv W hv => nullif_same v hi hok vv W hv
  have cR := fun W => arity_of name W _ _ _ har
  obtain ⟨k, i, s⟩ := v
  unfold okNo at cC
  simp only [if_true] at cC
  unfold bCoalesce at cK
  unfold bNullif at cN
  simp only [GV.val, GV.none] at cBig cC cK cN cR ⊢
  have HM := Lib.hid hm
  clear hm hf hs hok hi har
  go_enter Tryd.func6, Tryd.ntmps6
  go_wp2_with fail
  refine (cL _ (HM.out.below ((Below.refl w.heap.size w).alloc (Nat.le_refl _) _))).mono ?_
  rintro e w1 ⟨rfl, hb1⟩
  have v0_1 := cell_below hb1 (a := ⟨w.heap.size, 0, none⟩) (v := .int .i64 k) (by simp [go_sem])
  have v1_1 := cell_below hb1 (a := ⟨w.heap.size, 1, none⟩) (v := .int .i64 i) (by simp [go_sem])
  have v2_1 := cell_below hb1 (a := ⟨w.heap.size, 2, none⟩) (v := .string s) (by simp [go_sem])
  have B1 := later ((Below.refl w.heap.size w).alloc (Below.refl w.heap.size w).size _) hb1
  have hz_v0_1 := lt_of_cell v0_1
  go_wp2_with fail
  refine (cBig _ _ (VS.made [(⟨k, i, s⟩ : GV)] (by first | (with_reducible rfl) | simp | simp [go_sem]) rfl rfl (by simp))).mono ?_
  rintro e w2 ⟨rfl, hb2⟩
  have v0_2 := cell_below hb2 (cell_alloc (v0_1))
  have v1_2 := cell_below hb2 (cell_alloc (v1_1))
  have v2_2 := cell_below hb2 (cell_alloc (v2_1))
  have B2 := later (B1.alloc B1.size _) hb2
  have hz_v0_2 := lt_of_cell v0_2
  clear v0_1 v1_1 v2_1 hz_v0_1
  go_wp2_with fail
  refine (cC _).mono ?_
  rintro e w3 ⟨rfl, hb3⟩
  have v0_3 := cell_below hb3 (v0_2)
  have v1_3 := cell_below hb3 (v1_2)
  have v2_3 := cell_below hb3 (v2_2)
  have B3 := later B2 hb3
  have hz_v0_3 := lt_of_cell v0_3
  clear v0_2 v1_2 v2_2 hz_v0_2
  go_wp2_with fail
  refine (cR _).mono ?_
  rintro e w4 ⟨rfl, hb4⟩
  have v0_4 := cell_below hb4 (v0_3)
  have v1_4 := cell_below hb4 (v1_3)
  have v2_4 := cell_below hb4 (v2_3)
  have B4 := later B3 hb4
  have hz_v0_4 := lt_of_cell v0_4
  clear v0_3 v1_3 v2_3 hz_v0_3
  go_wp2_with fail
  refine (cK _ _ (VS.made [GV.none, (⟨k, i, s⟩ : GV)] (by first | (with_reducible rfl) | simp | simp [go_sem]) rfl rfl (by simp))).mono ?_
  rintro e w5 ⟨rfl, hb5⟩
  have v0_5 := cell_below hb5 (cell_alloc (v0_4))
  have v1_5 := cell_below hb5 (cell_alloc (v1_4))
  have v2_5 := cell_below hb5 (cell_alloc (v2_4))
  have B5 := later (B4.alloc B4.size _) hb5
  have hz_v0_5 := lt_of_cell v0_5
  clear v0_4 v1_4 v2_4 hz_v0_4
  go_wp2_with fail
  refine (cN _ _ (VS.made [(⟨k, i, s⟩ : GV), (⟨k, i, s⟩ : GV)] (by first | (with_reducible rfl) | simp | simp [go_sem]) rfl rfl (by simp))).mono ?_
  rintro e w6 ⟨rfl, hb6⟩
  have v0_6 := cell_below hb6 (cell_alloc (cell_alloc (v0_5)))
  have v1_6 := cell_below hb6 (cell_alloc (cell_alloc (v1_5)))
  have v2_6 := cell_below hb6 (cell_alloc (cell_alloc (v2_5)))
  have c0_6 := cell_below hb6 (a := ⟨w5.heap.size, 0, none⟩) (v := .int .i64 k) (by simp [go_sem])
  have c1_6 := cell_below hb6 (a := ⟨w5.heap.size, 1, none⟩) (v := .int .i64 i) (by simp [go_sem])
  have c2_6 := cell_below hb6 (a := ⟨w5.heap.size, 2, none⟩) (v := .string s) (by simp [go_sem])
  have B6 := later ((B5.alloc B5.size _).alloc (B5.alloc B5.size _).size _) hb6
  have hz_v0_6 := lt_of_cell v0_6
  have hz_c0_6 := lt_of_cell c0_6
  clear v0_5 v1_5 v2_5 hz_v0_5
  go_wp2
  go_returns
  exact Rets.bool rfl (B6.alloc B6.size _)

set_option maxRecDepth 100000 in
set_option maxHeartbeats 4000000 in
theorem nulls_co (v : GV) (name : ByteArray) (w : World) (hm : SomeMax w) (hs : v.s.size ≤ 281474976710656) (hf : few1 v = true) (hok : v.ok = true) (hi : I64 v.i) (lo hi2 : Int) (har : arityS name.toList = (lo, hi2, true)) (e1 : (name.toList == [99, 111, 97, 108, 101, 115, 99, 101]) = true) : Calls Tryd.prog 6 #[v.val, .string name] w (Rets (.bool true) w) := by
  have cL := fun W (h : SomeMax W) => live_true W h
  have cBig := fun row W (hv : VS W row [v]) => law_big1 v row W hv hs
  rw [hf] at cBig
  have cC := fun W => ref_Check v W
  rw [hok] at cC
  have cK := fun vv W hv => coalesce_none v hi hok vv W hv
  have cN := fun vv W hv => nullif_same v hi hok vv W hv
  have cR := fun W => arity_of name W _ _ _ har
  obtain ⟨k, i, s⟩ := v
  unfold okNo at cC
  simp only [if_true] at cC
  unfold bCoalesce at cK
  unfold bNullif at cN
  simp only [GV.val, GV.none] at cBig cC cK cN cR ⊢
  have HM := Lib.hid hm
  clear hm hf hs hok hi har
  go_enter Tryd.func6, Tryd.ntmps6
  go_wp2_with fail
  refine (cL _ (HM.out.below ((Below.refl w.heap.size w).alloc (Nat.le_refl _) _))).mono ?_
  rintro e w1 ⟨rfl, hb1⟩
  have v0_1 := cell_below hb1 (a := ⟨w.heap.size, 0, none⟩) (v := .int .i64 k) (by simp [go_sem])
  have v1_1 := cell_below hb1 (a := ⟨w.heap.size, 1, none⟩) (v := .int .i64 i) (by simp [go_sem])
  have v2_1 := cell_below hb1 (a := ⟨w.heap.size, 2, none⟩) (v := .string s) (by simp [go_sem])
  have B1 := later ((Below.refl w.heap.size w).alloc (Below.refl w.heap.size w).size _) hb1
  have hz_v0_1 := lt_of_cell v0_1
  go_wp2_with fail
  refine (cBig _ _ (VS.made [(⟨k, i, s⟩ : GV)] (by first | (with_reducible rfl) | simp | simp [go_sem]) rfl rfl (by simp))).mono ?_
  rintro e w2 ⟨rfl, hb2⟩
  have v0_2 := cell_below hb2 (cell_alloc (v0_1))
  have v1_2 := cell_below hb2 (cell_alloc (v1_1))
  have v2_2 := cell_below hb2 (cell_alloc (v2_1))
  have B2 := later (B1.alloc B1.size _) hb2
  have hz_v0_2 := lt_of_cell v0_2
  clear v0_1 v1_1 v2_1 hz_v0_1
  go_wp2_with fail
  refine (cC _).mono ?_
  rintro e w3 ⟨rfl, hb3⟩
  have v0_3 := cell_below hb3 (v0_2)
  have v1_3 := cell_below hb3 (v1_2)
  have v2_3 := cell_below hb3 (v2_2)
  have B3 := later B2 hb3
  have hz_v0_3 := lt_of_cell v0_3
  clear v0_2 v1_2 v2_2 hz_v0_2
  go_wp2_with fail
  refine (cR _).mono ?_
  rintro e w4 ⟨rfl, hb4⟩
  have v0_4 := cell_below hb4 (v0_3)
  have v1_4 := cell_below hb4 (v1_3)
  have v2_4 := cell_below hb4 (v2_3)
  have B4 := later B3 hb4
  have hz_v0_4 := lt_of_cell v0_4
  clear v0_3 v1_3 v2_3 hz_v0_3
  go_wp2_with fail
  refine (cK _ _ (VS.made [GV.none, (⟨k, i, s⟩ : GV)] (by first | (with_reducible rfl) | simp | simp [go_sem]) rfl rfl (by simp))).mono ?_
  rintro e w5 ⟨rfl, hb5⟩
  have v0_5 := cell_below hb5 (cell_alloc (v0_4))
  have v1_5 := cell_below hb5 (cell_alloc (v1_4))
  have v2_5 := cell_below hb5 (cell_alloc (v2_4))
  have B5 := later (B4.alloc B4.size _) hb5
  have hz_v0_5 := lt_of_cell v0_5
  clear v0_4 v1_4 v2_4 hz_v0_4
  go_wp2_with fail
  refine (cN _ _ (VS.made [(⟨k, i, s⟩ : GV), (⟨k, i, s⟩ : GV)] (by first | (with_reducible rfl) | simp | simp [go_sem]) rfl rfl (by simp))).mono ?_
  rintro e w6 ⟨rfl, hb6⟩
  have v0_6 := cell_below hb6 (cell_alloc (cell_alloc (v0_5)))
  have v1_6 := cell_below hb6 (cell_alloc (cell_alloc (v1_5)))
  have v2_6 := cell_below hb6 (cell_alloc (cell_alloc (v2_5)))
  have c0_6 := cell_below hb6 (a := ⟨w5.heap.size, 0, none⟩) (v := .int .i64 k) (by simp [go_sem])
  have c1_6 := cell_below hb6 (a := ⟨w5.heap.size, 1, none⟩) (v := .int .i64 i) (by simp [go_sem])
  have c2_6 := cell_below hb6 (a := ⟨w5.heap.size, 2, none⟩) (v := .string s) (by simp [go_sem])
  have B6 := later ((B5.alloc B5.size _).alloc (B5.alloc B5.size _).size _) hb6
  have hz_v0_6 := lt_of_cell v0_6
  have hz_c0_6 := lt_of_cell c0_6
  clear v0_5 v1_5 v2_5 hz_v0_5
  go_wp2
  go_returns
  exact Rets.bool rfl (B6.alloc B6.size _)

set_option maxRecDepth 100000 in
set_option maxHeartbeats 4000000 in
theorem nulls_if (v : GV) (name : ByteArray) (w : World) (hm : SomeMax w) (hs : v.s.size ≤ 281474976710656) (hf : few1 v = true) (hok : v.ok = true) (hi : I64 v.i) (lo hi2 : Int) (har : arityS name.toList = (lo, hi2, true)) (e1 : (name.toList == [99, 111, 97, 108, 101, 115, 99, 101]) = false) (e2 : (name.toList == [110, 117, 108, 108, 105, 102]) = true) : Calls Tryd.prog 6 #[v.val, .string name] w (Rets (.bool true) w) := by
  have cL := fun W (h : SomeMax W) => live_true W h
  have cBig := fun row W (hv : VS W row [v]) => law_big1 v row W hv hs
  rw [hf] at cBig
  have cC := fun W => ref_Check v W
  rw [hok] at cC
  have cK := fun vv W hv => coalesce_none v hi hok vv W hv
  have cN := fun vv W hv => nullif_same v hi hok vv W hv
  have cR := fun W => arity_of name W _ _ _ har
  obtain ⟨k, i, s⟩ := v
  unfold okNo at cC
  simp only [if_true] at cC
  unfold bCoalesce at cK
  unfold bNullif at cN
  simp only [GV.val, GV.none] at cBig cC cK cN cR ⊢
  have HM := Lib.hid hm
  clear hm hf hs hok hi har
  go_enter Tryd.func6, Tryd.ntmps6
  go_wp2_with fail
  refine (cL _ (HM.out.below ((Below.refl w.heap.size w).alloc (Nat.le_refl _) _))).mono ?_
  rintro e w1 ⟨rfl, hb1⟩
  have v0_1 := cell_below hb1 (a := ⟨w.heap.size, 0, none⟩) (v := .int .i64 k) (by simp [go_sem])
  have v1_1 := cell_below hb1 (a := ⟨w.heap.size, 1, none⟩) (v := .int .i64 i) (by simp [go_sem])
  have v2_1 := cell_below hb1 (a := ⟨w.heap.size, 2, none⟩) (v := .string s) (by simp [go_sem])
  have B1 := later ((Below.refl w.heap.size w).alloc (Below.refl w.heap.size w).size _) hb1
  have hz_v0_1 := lt_of_cell v0_1
  go_wp2_with fail
  refine (cBig _ _ (VS.made [(⟨k, i, s⟩ : GV)] (by first | (with_reducible rfl) | simp | simp [go_sem]) rfl rfl (by simp))).mono ?_
  rintro e w2 ⟨rfl, hb2⟩
  have v0_2 := cell_below hb2 (cell_alloc (v0_1))
  have v1_2 := cell_below hb2 (cell_alloc (v1_1))
  have v2_2 := cell_below hb2 (cell_alloc (v2_1))
  have B2 := later (B1.alloc B1.size _) hb2
  have hz_v0_2 := lt_of_cell v0_2
  clear v0_1 v1_1 v2_1 hz_v0_1
  go_wp2_with fail
  refine (cC _).mono ?_
  rintro e w3 ⟨rfl, hb3⟩
  have v0_3 := cell_below hb3 (v0_2)
  have v1_3 := cell_below hb3 (v1_2)
  have v2_3 := cell_below hb3 (v2_2)
  have B3 := later B2 hb3
  have hz_v0_3 := lt_of_cell v0_3
  clear v0_2 v1_2 v2_2 hz_v0_2
  go_wp2_with fail
  refine (cR _).mono ?_
  rintro e w4 ⟨rfl, hb4⟩
  have v0_4 := cell_below hb4 (v0_3)
  have v1_4 := cell_below hb4 (v1_3)
  have v2_4 := cell_below hb4 (v2_3)
  have B4 := later B3 hb4
  have hz_v0_4 := lt_of_cell v0_4
  clear v0_3 v1_3 v2_3 hz_v0_3
  go_wp2_with fail
  refine (cK _ _ (VS.made [GV.none, (⟨k, i, s⟩ : GV)] (by first | (with_reducible rfl) | simp | simp [go_sem]) rfl rfl (by simp))).mono ?_
  rintro e w5 ⟨rfl, hb5⟩
  have v0_5 := cell_below hb5 (cell_alloc (v0_4))
  have v1_5 := cell_below hb5 (cell_alloc (v1_4))
  have v2_5 := cell_below hb5 (cell_alloc (v2_4))
  have B5 := later (B4.alloc B4.size _) hb5
  have hz_v0_5 := lt_of_cell v0_5
  clear v0_4 v1_4 v2_4 hz_v0_4
  go_wp2_with fail
  refine (cN _ _ (VS.made [(⟨k, i, s⟩ : GV), (⟨k, i, s⟩ : GV)] (by first | (with_reducible rfl) | simp | simp [go_sem]) rfl rfl (by simp))).mono ?_
  rintro e w6 ⟨rfl, hb6⟩
  have v0_6 := cell_below hb6 (cell_alloc (cell_alloc (v0_5)))
  have v1_6 := cell_below hb6 (cell_alloc (cell_alloc (v1_5)))
  have v2_6 := cell_below hb6 (cell_alloc (cell_alloc (v2_5)))
  have c0_6 := cell_below hb6 (a := ⟨w5.heap.size, 0, none⟩) (v := .int .i64 k) (by simp [go_sem])
  have c1_6 := cell_below hb6 (a := ⟨w5.heap.size, 1, none⟩) (v := .int .i64 i) (by simp [go_sem])
  have c2_6 := cell_below hb6 (a := ⟨w5.heap.size, 2, none⟩) (v := .string s) (by simp [go_sem])
  have B6 := later ((B5.alloc B5.size _).alloc (B5.alloc B5.size _).size _) hb6
  have hz_v0_6 := lt_of_cell v0_6
  have hz_c0_6 := lt_of_cell c0_6
  clear v0_5 v1_5 v2_5 hz_v0_5
  go_wp2
  go_returns
  exact Rets.bool rfl (B6.alloc B6.size _)

set_option maxRecDepth 100000 in
set_option maxHeartbeats 4000000 in
theorem nulls_fn1 (v : GV) (name : ByteArray) (w : World) (hm : SomeMax w) (hs : v.s.size ≤ 281474976710656) (hf : few1 v = true) (hok : v.ok = true) (hi : I64 v.i) (p : Nat) (har : arityS name.toList = (1, 1, true)) (e1 : (name.toList == [99, 111, 97, 108, 101, 115, 99, 101]) = false) (e2 : (name.toList == [110, 117, 108, 108, 105, 102]) = false) (hpos : posOf name.toList = p) (hlen : (kindsOf.getD p []).length = 1) : Calls Tryd.prog 6 #[v.val, .string name] w (Rets (.bool true) w) := by
  have cL := fun W (h : SomeMax W) => live_true W h
  have cBig := fun row W (hv : VS W row [v]) => law_big1 v row W hv hs
  rw [hf] at cBig
  have cC := fun W => ref_Check v W
  rw [hok] at cC
  have cK := fun vv W hv => coalesce_none v hi hok vv W hv
  have cN := fun vv W hv => nullif_same v hi hok vv W hv
  have cR := fun W => arity_of name W _ _ _ har
  have hmk : ∀ W, (Instr.makeSlice 41 (.int .i64 1) (.int .i64 1)).run Tryd.prog W = .ok (.slice (some ⟨W.heap.size, 0, none⟩) 1 1) (W.alloc (.cells #[.int .i64 0, .int .i64 0, .string ⟨#[]⟩] 23)) := fun _ => by kernel_rfl
  have cF := fun vv W hv h => call_nulls name p e1 e2 hpos [GV.none] (fun j x hj => by match j with | 0 => cases hj; rfl | j + 1 => simp at hj) (by simp) vv W hv h hlen.symm
  obtain ⟨k, i, s⟩ := v
  unfold okNo at cC
  simp only [if_true] at cC
  unfold bCoalesce at cK
  unfold bNullif at cN
  simp only [GV.val, GV.none] at cBig cC cK cN cR cF ⊢
  have HM := Lib.hid hm
  clear hm hf hs hok hi har
  clear hpos hlen
  go_enter Tryd.func6, Tryd.ntmps6
  go_wp2_with fail
  refine (cL _ (HM.out.below ((Below.refl w.heap.size w).alloc (Nat.le_refl _) _))).mono ?_
  rintro e w1 ⟨rfl, hb1⟩
  have v0_1 := cell_below hb1 (a := ⟨w.heap.size, 0, none⟩) (v := .int .i64 k) (by simp [go_sem])
  have v1_1 := cell_below hb1 (a := ⟨w.heap.size, 1, none⟩) (v := .int .i64 i) (by simp [go_sem])
  have v2_1 := cell_below hb1 (a := ⟨w.heap.size, 2, none⟩) (v := .string s) (by simp [go_sem])
  have B1 := later ((Below.refl w.heap.size w).alloc (Below.refl w.heap.size w).size _) hb1
  have hz_v0_1 := lt_of_cell v0_1
  go_wp2_with fail
  refine (cBig _ _ (VS.made [(⟨k, i, s⟩ : GV)] (by first | (with_reducible rfl) | simp | simp [go_sem]) rfl rfl (by simp))).mono ?_
  rintro e w2 ⟨rfl, hb2⟩
  have v0_2 := cell_below hb2 (cell_alloc (v0_1))
  have v1_2 := cell_below hb2 (cell_alloc (v1_1))
  have v2_2 := cell_below hb2 (cell_alloc (v2_1))
  have B2 := later (B1.alloc B1.size _) hb2
  have hz_v0_2 := lt_of_cell v0_2
  clear v0_1 v1_1 v2_1 hz_v0_1
  go_wp2_with fail
  refine (cC _).mono ?_
  rintro e w3 ⟨rfl, hb3⟩
  have v0_3 := cell_below hb3 (v0_2)
  have v1_3 := cell_below hb3 (v1_2)
  have v2_3 := cell_below hb3 (v2_2)
  have B3 := later B2 hb3
  have hz_v0_3 := lt_of_cell v0_3
  clear v0_2 v1_2 v2_2 hz_v0_2
  go_wp2_with fail
  refine (cR _).mono ?_
  rintro e w4 ⟨rfl, hb4⟩
  have v0_4 := cell_below hb4 (v0_3)
  have v1_4 := cell_below hb4 (v1_3)
  have v2_4 := cell_below hb4 (v2_3)
  have B4 := later B3 hb4
  have hz_v0_4 := lt_of_cell v0_4
  clear v0_3 v1_3 v2_3 hz_v0_3
  go_wp2_with fail
  refine (cF _ _ (VS.made [GV.none] (by first | (with_reducible rfl) | simp | simp [go_sem]) rfl rfl (by simp)) (HM.out.below (B4.alloc B4.size _))).mono ?_
  rintro e w5 ⟨rfl, hb5⟩
  have v0_5 := cell_below hb5 (cell_alloc (v0_4))
  have v1_5 := cell_below hb5 (cell_alloc (v1_4))
  have v2_5 := cell_below hb5 (cell_alloc (v2_4))
  have B5 := later (B4.alloc B4.size _) hb5
  have hz_v0_5 := lt_of_cell v0_5
  clear v0_4 v1_4 v2_4 hz_v0_4
  go_wp2_with fail
  refine (cK _ _ (VS.made [GV.none, (⟨k, i, s⟩ : GV)] (by first | (with_reducible rfl) | simp | simp [go_sem]) rfl rfl (by simp))).mono ?_
  rintro e w6 ⟨rfl, hb6⟩
  have v0_6 := cell_below hb6 (cell_alloc (cell_alloc (v0_5)))
  have v1_6 := cell_below hb6 (cell_alloc (cell_alloc (v1_5)))
  have v2_6 := cell_below hb6 (cell_alloc (cell_alloc (v2_5)))
  have x0_6 := cell_below hb6 (a := ⟨w5.heap.size, 0, none⟩) (v := .int .i64 0) (by simp [go_sem])
  have x1_6 := cell_below hb6 (a := ⟨w5.heap.size, 1, none⟩) (v := .int .i64 0) (by simp [go_sem])
  have x2_6 := cell_below hb6 (a := ⟨w5.heap.size, 2, none⟩) (v := .string ⟨#[]⟩) (by simp [go_sem])
  have B6 := later ((B5.alloc B5.size _).alloc (B5.alloc B5.size _).size _) hb6
  have hz_v0_6 := lt_of_cell v0_6
  have hz_x0_6 := lt_of_cell x0_6
  clear v0_5 v1_5 v2_5 hz_v0_5
  go_wp2_with fail
  refine (cN _ _ (VS.made [(⟨k, i, s⟩ : GV), (⟨k, i, s⟩ : GV)] (by first | (with_reducible rfl) | simp | simp [go_sem]) rfl rfl (by simp))).mono ?_
  rintro e w7 ⟨rfl, hb7⟩
  have v0_7 := cell_below hb7 (cell_alloc (cell_alloc (v0_6)))
  have v1_7 := cell_below hb7 (cell_alloc (cell_alloc (v1_6)))
  have v2_7 := cell_below hb7 (cell_alloc (cell_alloc (v2_6)))
  have x0_7 := cell_below hb7 (cell_alloc (cell_alloc (x0_6)))
  have x1_7 := cell_below hb7 (cell_alloc (cell_alloc (x1_6)))
  have x2_7 := cell_below hb7 (cell_alloc (cell_alloc (x2_6)))
  have c0_7 := cell_below hb7 (a := ⟨w6.heap.size, 0, none⟩) (v := .int .i64 k) (by simp [go_sem])
  have c1_7 := cell_below hb7 (a := ⟨w6.heap.size, 1, none⟩) (v := .int .i64 i) (by simp [go_sem])
  have c2_7 := cell_below hb7 (a := ⟨w6.heap.size, 2, none⟩) (v := .string s) (by simp [go_sem])
  have B7 := later ((B6.alloc B6.size _).alloc (B6.alloc B6.size _).size _) hb7
  have hz_v0_7 := lt_of_cell v0_7
  have hz_x0_7 := lt_of_cell x0_7
  have hz_c0_7 := lt_of_cell c0_7
  clear v0_6 v1_6 v2_6 x0_6 x1_6 x2_6 hz_v0_6 hz_x0_6
  go_wp2
  go_returns
  exact Rets.bool rfl (B7.alloc B7.size _)

set_option maxRecDepth 100000 in
set_option maxHeartbeats 4000000 in
theorem nulls_fn2 (v : GV) (name : ByteArray) (w : World) (hm : SomeMax w) (hs : v.s.size ≤ 281474976710656) (hf : few1 v = true) (hok : v.ok = true) (hi : I64 v.i) (p : Nat) (har : arityS name.toList = (2, 2, true)) (e1 : (name.toList == [99, 111, 97, 108, 101, 115, 99, 101]) = false) (e2 : (name.toList == [110, 117, 108, 108, 105, 102]) = false) (hpos : posOf name.toList = p) (hlen : (kindsOf.getD p []).length = 2) : Calls Tryd.prog 6 #[v.val, .string name] w (Rets (.bool true) w) := by
  have cL := fun W (h : SomeMax W) => live_true W h
  have cBig := fun row W (hv : VS W row [v]) => law_big1 v row W hv hs
  rw [hf] at cBig
  have cC := fun W => ref_Check v W
  rw [hok] at cC
  have cK := fun vv W hv => coalesce_none v hi hok vv W hv
  have cN := fun vv W hv => nullif_same v hi hok vv W hv
  have cR := fun W => arity_of name W _ _ _ har
  have hmk : ∀ W, (Instr.makeSlice 41 (.int .i64 2) (.int .i64 2)).run Tryd.prog W = .ok (.slice (some ⟨W.heap.size, 0, none⟩) 2 2) (W.alloc (.cells #[.int .i64 0, .int .i64 0, .string ⟨#[]⟩, .int .i64 0, .int .i64 0, .string ⟨#[]⟩] 23)) := fun _ => by kernel_rfl
  have cF := fun vv W hv h => call_nulls name p e1 e2 hpos [GV.none, GV.none] (fun j x hj => by match j with | 0 => cases hj; rfl | 1 => cases hj; rfl | j + 2 => simp at hj) (by simp) vv W hv h hlen.symm
  obtain ⟨k, i, s⟩ := v
  unfold okNo at cC
  simp only [if_true] at cC
  unfold bCoalesce at cK
  unfold bNullif at cN
  simp only [GV.val, GV.none] at cBig cC cK cN cR cF ⊢
  have HM := Lib.hid hm
  clear hm hf hs hok hi har
  clear hpos hlen
  go_enter Tryd.func6, Tryd.ntmps6
  go_wp2_with fail
  refine (cL _ (HM.out.below ((Below.refl w.heap.size w).alloc (Nat.le_refl _) _))).mono ?_
  rintro e w1 ⟨rfl, hb1⟩
  have v0_1 := cell_below hb1 (a := ⟨w.heap.size, 0, none⟩) (v := .int .i64 k) (by simp [go_sem])
  have v1_1 := cell_below hb1 (a := ⟨w.heap.size, 1, none⟩) (v := .int .i64 i) (by simp [go_sem])
  have v2_1 := cell_below hb1 (a := ⟨w.heap.size, 2, none⟩) (v := .string s) (by simp [go_sem])
  have B1 := later ((Below.refl w.heap.size w).alloc (Below.refl w.heap.size w).size _) hb1
  have hz_v0_1 := lt_of_cell v0_1
  go_wp2_with fail
  refine (cBig _ _ (VS.made [(⟨k, i, s⟩ : GV)] (by first | (with_reducible rfl) | simp | simp [go_sem]) rfl rfl (by simp))).mono ?_
  rintro e w2 ⟨rfl, hb2⟩
  have v0_2 := cell_below hb2 (cell_alloc (v0_1))
  have v1_2 := cell_below hb2 (cell_alloc (v1_1))
  have v2_2 := cell_below hb2 (cell_alloc (v2_1))
  have B2 := later (B1.alloc B1.size _) hb2
  have hz_v0_2 := lt_of_cell v0_2
  clear v0_1 v1_1 v2_1 hz_v0_1
  go_wp2_with fail
  refine (cC _).mono ?_
  rintro e w3 ⟨rfl, hb3⟩
  have v0_3 := cell_below hb3 (v0_2)
  have v1_3 := cell_below hb3 (v1_2)
  have v2_3 := cell_below hb3 (v2_2)
  have B3 := later B2 hb3
  have hz_v0_3 := lt_of_cell v0_3
  clear v0_2 v1_2 v2_2 hz_v0_2
  go_wp2_with fail
  refine (cR _).mono ?_
  rintro e w4 ⟨rfl, hb4⟩
  have v0_4 := cell_below hb4 (v0_3)
  have v1_4 := cell_below hb4 (v1_3)
  have v2_4 := cell_below hb4 (v2_3)
  have B4 := later B3 hb4
  have hz_v0_4 := lt_of_cell v0_4
  clear v0_3 v1_3 v2_3 hz_v0_3
  go_wp2_with fail
  refine (cF _ _ (VS.made [GV.none, GV.none] (by first | (with_reducible rfl) | simp | simp [go_sem]) rfl rfl (by simp)) (HM.out.below (B4.alloc B4.size _))).mono ?_
  rintro e w5 ⟨rfl, hb5⟩
  have v0_5 := cell_below hb5 (cell_alloc (v0_4))
  have v1_5 := cell_below hb5 (cell_alloc (v1_4))
  have v2_5 := cell_below hb5 (cell_alloc (v2_4))
  have B5 := later (B4.alloc B4.size _) hb5
  have hz_v0_5 := lt_of_cell v0_5
  clear v0_4 v1_4 v2_4 hz_v0_4
  go_wp2_with fail
  refine (cK _ _ (VS.made [GV.none, (⟨k, i, s⟩ : GV)] (by first | (with_reducible rfl) | simp | simp [go_sem]) rfl rfl (by simp))).mono ?_
  rintro e w6 ⟨rfl, hb6⟩
  have v0_6 := cell_below hb6 (cell_alloc (cell_alloc (v0_5)))
  have v1_6 := cell_below hb6 (cell_alloc (cell_alloc (v1_5)))
  have v2_6 := cell_below hb6 (cell_alloc (cell_alloc (v2_5)))
  have x0_6 := cell_below hb6 (a := ⟨w5.heap.size, 0, none⟩) (v := .int .i64 0) (by simp [go_sem])
  have x1_6 := cell_below hb6 (a := ⟨w5.heap.size, 1, none⟩) (v := .int .i64 0) (by simp [go_sem])
  have x2_6 := cell_below hb6 (a := ⟨w5.heap.size, 2, none⟩) (v := .string ⟨#[]⟩) (by simp [go_sem])
  have B6 := later ((B5.alloc B5.size _).alloc (B5.alloc B5.size _).size _) hb6
  have hz_v0_6 := lt_of_cell v0_6
  have hz_x0_6 := lt_of_cell x0_6
  clear v0_5 v1_5 v2_5 hz_v0_5
  go_wp2_with fail
  refine (cN _ _ (VS.made [(⟨k, i, s⟩ : GV), (⟨k, i, s⟩ : GV)] (by first | (with_reducible rfl) | simp | simp [go_sem]) rfl rfl (by simp))).mono ?_
  rintro e w7 ⟨rfl, hb7⟩
  have v0_7 := cell_below hb7 (cell_alloc (cell_alloc (v0_6)))
  have v1_7 := cell_below hb7 (cell_alloc (cell_alloc (v1_6)))
  have v2_7 := cell_below hb7 (cell_alloc (cell_alloc (v2_6)))
  have x0_7 := cell_below hb7 (cell_alloc (cell_alloc (x0_6)))
  have x1_7 := cell_below hb7 (cell_alloc (cell_alloc (x1_6)))
  have x2_7 := cell_below hb7 (cell_alloc (cell_alloc (x2_6)))
  have c0_7 := cell_below hb7 (a := ⟨w6.heap.size, 0, none⟩) (v := .int .i64 k) (by simp [go_sem])
  have c1_7 := cell_below hb7 (a := ⟨w6.heap.size, 1, none⟩) (v := .int .i64 i) (by simp [go_sem])
  have c2_7 := cell_below hb7 (a := ⟨w6.heap.size, 2, none⟩) (v := .string s) (by simp [go_sem])
  have B7 := later ((B6.alloc B6.size _).alloc (B6.alloc B6.size _).size _) hb7
  have hz_v0_7 := lt_of_cell v0_7
  have hz_x0_7 := lt_of_cell x0_7
  have hz_c0_7 := lt_of_cell c0_7
  clear v0_6 v1_6 v2_6 x0_6 x1_6 x2_6 hz_v0_6 hz_x0_6
  go_wp2
  go_returns
  exact Rets.bool rfl (B7.alloc B7.size _)

set_option maxRecDepth 100000 in
set_option maxHeartbeats 4000000 in
theorem nulls_fn3 (v : GV) (name : ByteArray) (w : World) (hm : SomeMax w) (hs : v.s.size ≤ 281474976710656) (hf : few1 v = true) (hok : v.ok = true) (hi : I64 v.i) (p : Nat) (har : arityS name.toList = (3, 3, true)) (e1 : (name.toList == [99, 111, 97, 108, 101, 115, 99, 101]) = false) (e2 : (name.toList == [110, 117, 108, 108, 105, 102]) = false) (hpos : posOf name.toList = p) (hlen : (kindsOf.getD p []).length = 3) : Calls Tryd.prog 6 #[v.val, .string name] w (Rets (.bool true) w) := by
  have cL := fun W (h : SomeMax W) => live_true W h
  have cBig := fun row W (hv : VS W row [v]) => law_big1 v row W hv hs
  rw [hf] at cBig
  have cC := fun W => ref_Check v W
  rw [hok] at cC
  have cK := fun vv W hv => coalesce_none v hi hok vv W hv
  have cN := fun vv W hv => nullif_same v hi hok vv W hv
  have cR := fun W => arity_of name W _ _ _ har
  have hmk : ∀ W, (Instr.makeSlice 41 (.int .i64 3) (.int .i64 3)).run Tryd.prog W = .ok (.slice (some ⟨W.heap.size, 0, none⟩) 3 3) (W.alloc (.cells #[.int .i64 0, .int .i64 0, .string ⟨#[]⟩, .int .i64 0, .int .i64 0, .string ⟨#[]⟩, .int .i64 0, .int .i64 0, .string ⟨#[]⟩] 23)) := fun _ => by kernel_rfl
  have cF := fun vv W hv h => call_nulls name p e1 e2 hpos [GV.none, GV.none, GV.none] (fun j x hj => by match j with | 0 => cases hj; rfl | 1 => cases hj; rfl | 2 => cases hj; rfl | j + 3 => simp at hj) (by simp) vv W hv h hlen.symm
  obtain ⟨k, i, s⟩ := v
  unfold okNo at cC
  simp only [if_true] at cC
  unfold bCoalesce at cK
  unfold bNullif at cN
  simp only [GV.val, GV.none] at cBig cC cK cN cR cF ⊢
  have HM := Lib.hid hm
  clear hm hf hs hok hi har
  clear hpos hlen
  go_enter Tryd.func6, Tryd.ntmps6
  go_wp2_with fail
  refine (cL _ (HM.out.below ((Below.refl w.heap.size w).alloc (Nat.le_refl _) _))).mono ?_
  rintro e w1 ⟨rfl, hb1⟩
  have v0_1 := cell_below hb1 (a := ⟨w.heap.size, 0, none⟩) (v := .int .i64 k) (by simp [go_sem])
  have v1_1 := cell_below hb1 (a := ⟨w.heap.size, 1, none⟩) (v := .int .i64 i) (by simp [go_sem])
  have v2_1 := cell_below hb1 (a := ⟨w.heap.size, 2, none⟩) (v := .string s) (by simp [go_sem])
  have B1 := later ((Below.refl w.heap.size w).alloc (Below.refl w.heap.size w).size _) hb1
  have hz_v0_1 := lt_of_cell v0_1
  go_wp2_with fail
  refine (cBig _ _ (VS.made [(⟨k, i, s⟩ : GV)] (by first | (with_reducible rfl) | simp | simp [go_sem]) rfl rfl (by simp))).mono ?_
  rintro e w2 ⟨rfl, hb2⟩
  have v0_2 := cell_below hb2 (cell_alloc (v0_1))
  have v1_2 := cell_below hb2 (cell_alloc (v1_1))
  have v2_2 := cell_below hb2 (cell_alloc (v2_1))
  have B2 := later (B1.alloc B1.size _) hb2
  have hz_v0_2 := lt_of_cell v0_2
  clear v0_1 v1_1 v2_1 hz_v0_1
  go_wp2_with fail
  refine (cC _).mono ?_
  rintro e w3 ⟨rfl, hb3⟩
  have v0_3 := cell_below hb3 (v0_2)
  have v1_3 := cell_below hb3 (v1_2)
  have v2_3 := cell_below hb3 (v2_2)
  have B3 := later B2 hb3
  have hz_v0_3 := lt_of_cell v0_3
  clear v0_2 v1_2 v2_2 hz_v0_2
  go_wp2_with fail
  refine (cR _).mono ?_
  rintro e w4 ⟨rfl, hb4⟩
  have v0_4 := cell_below hb4 (v0_3)
  have v1_4 := cell_below hb4 (v1_3)
  have v2_4 := cell_below hb4 (v2_3)
  have B4 := later B3 hb4
  have hz_v0_4 := lt_of_cell v0_4
  clear v0_3 v1_3 v2_3 hz_v0_3
  go_wp2_with fail
  refine (cF _ _ (VS.made [GV.none, GV.none, GV.none] (by first | (with_reducible rfl) | simp | simp [go_sem]) rfl rfl (by simp)) (HM.out.below (B4.alloc B4.size _))).mono ?_
  rintro e w5 ⟨rfl, hb5⟩
  have v0_5 := cell_below hb5 (cell_alloc (v0_4))
  have v1_5 := cell_below hb5 (cell_alloc (v1_4))
  have v2_5 := cell_below hb5 (cell_alloc (v2_4))
  have B5 := later (B4.alloc B4.size _) hb5
  have hz_v0_5 := lt_of_cell v0_5
  clear v0_4 v1_4 v2_4 hz_v0_4
  go_wp2_with fail
  refine (cK _ _ (VS.made [GV.none, (⟨k, i, s⟩ : GV)] (by first | (with_reducible rfl) | simp | simp [go_sem]) rfl rfl (by simp))).mono ?_
  rintro e w6 ⟨rfl, hb6⟩
  have v0_6 := cell_below hb6 (cell_alloc (cell_alloc (v0_5)))
  have v1_6 := cell_below hb6 (cell_alloc (cell_alloc (v1_5)))
  have v2_6 := cell_below hb6 (cell_alloc (cell_alloc (v2_5)))
  have x0_6 := cell_below hb6 (a := ⟨w5.heap.size, 0, none⟩) (v := .int .i64 0) (by simp [go_sem])
  have x1_6 := cell_below hb6 (a := ⟨w5.heap.size, 1, none⟩) (v := .int .i64 0) (by simp [go_sem])
  have x2_6 := cell_below hb6 (a := ⟨w5.heap.size, 2, none⟩) (v := .string ⟨#[]⟩) (by simp [go_sem])
  have B6 := later ((B5.alloc B5.size _).alloc (B5.alloc B5.size _).size _) hb6
  have hz_v0_6 := lt_of_cell v0_6
  have hz_x0_6 := lt_of_cell x0_6
  clear v0_5 v1_5 v2_5 hz_v0_5
  go_wp2_with fail
  refine (cN _ _ (VS.made [(⟨k, i, s⟩ : GV), (⟨k, i, s⟩ : GV)] (by first | (with_reducible rfl) | simp | simp [go_sem]) rfl rfl (by simp))).mono ?_
  rintro e w7 ⟨rfl, hb7⟩
  have v0_7 := cell_below hb7 (cell_alloc (cell_alloc (v0_6)))
  have v1_7 := cell_below hb7 (cell_alloc (cell_alloc (v1_6)))
  have v2_7 := cell_below hb7 (cell_alloc (cell_alloc (v2_6)))
  have x0_7 := cell_below hb7 (cell_alloc (cell_alloc (x0_6)))
  have x1_7 := cell_below hb7 (cell_alloc (cell_alloc (x1_6)))
  have x2_7 := cell_below hb7 (cell_alloc (cell_alloc (x2_6)))
  have c0_7 := cell_below hb7 (a := ⟨w6.heap.size, 0, none⟩) (v := .int .i64 k) (by simp [go_sem])
  have c1_7 := cell_below hb7 (a := ⟨w6.heap.size, 1, none⟩) (v := .int .i64 i) (by simp [go_sem])
  have c2_7 := cell_below hb7 (a := ⟨w6.heap.size, 2, none⟩) (v := .string s) (by simp [go_sem])
  have B7 := later ((B6.alloc B6.size _).alloc (B6.alloc B6.size _).size _) hb7
  have hz_v0_7 := lt_of_cell v0_7
  have hz_x0_7 := lt_of_cell x0_7
  have hz_c0_7 := lt_of_cell c0_7
  clear v0_6 v1_6 v2_6 x0_6 x1_6 x2_6 hz_v0_6 hz_x0_6
  go_wp2
  go_returns
  exact Rets.bool rfl (B7.alloc B7.size _)

theorem kinds_len (p : Nat) (hp : p < 9) : (kindsOf.getD p []).length = 1 ∨ (kindsOf.getD p []).length = 2 ∨ (kindsOf.getD p []).length = 3 := by
  match p, hp with
  | 0, _ => exact .inl rfl
  | 1, _ => exact .inl rfl
  | 2, _ => exact .inl rfl
  | 3, _ => exact .inl rfl
  | 4, _ => exact .inl rfl
  | 5, _ => exact .inl rfl
  | 6, _ => exact .inr (.inr rfl)
  | 7, _ => exact .inr (.inl rfl)
  | 8, _ => exact .inr (.inr rfl)

theorem nulls_any (v : GV) (name : ByteArray) (w : World) (hm : SomeMax w) (hs : v.s.size ≤ 281474976710656) (hi : I64 v.i) : Calls Tryd.prog 6 #[v.val, .string name] w (Rets (.bool true) w) := by
  cases hf : few1 v with
  | false => exact nulls_big v name w hm hs hf
  | true =>
    cases hok : v.ok with
    | false => exact nulls_bad v name w hm hs hf hok
    | true =>
      cases e1 : name.toList == [99, 111, 97, 108, 101, 115, 99, 101] with
      | true => exact nulls_co v name w hm hs hf hok hi 1 (-1) (by unfold arityS; rw [if_pos (show name.toList = sCoalesce from beq_iff_eq.1 e1)]) e1
      | false =>
        cases e2 : name.toList == [110, 117, 108, 108, 105, 102] with
        | true => exact nulls_if v name w hm hs hf hok hi 2 2 (by unfold arityS; rw [if_neg (show name.toList ≠ sCoalesce from beq_eq_false_iff_ne.1 e1), if_pos (show name.toList = sNullif from beq_iff_eq.1 e2)]) e1 e2
        | false =>
          have hp := posOf_lt name.toList
          by_cases hneg : posOf name.toList < 0
          · exact nulls_no v name w hm hs hf hok hi 0 0 (by unfold arityS; rw [if_neg (show name.toList ≠ sCoalesce from beq_eq_false_iff_ne.1 e1), if_neg (show name.toList ≠ sNullif from beq_eq_false_iff_ne.1 e2), if_pos hneg])
          · obtain ⟨p, hpp⟩ : ∃ p : Nat, posOf name.toList = p := ⟨(posOf name.toList).toNat, by omega⟩
            have ha := arityS_pos e1 e2 hpp
            rcases kinds_len p (by omega) with h | h | h
            · rw [h] at ha; exact nulls_fn1 v name w hm hs hf hok hi p ha e1 e2 hpp h
            · rw [h] at ha; exact nulls_fn2 v name w hm hs hf hok hi p ha e1 e2 hpp h
            · rw [h] at ha; exact nulls_fn3 v name w hm hs hf hok hi p ha e1 e2 hpp h
end Go.Proofs.YtddnkjeogidfcaaDoor
