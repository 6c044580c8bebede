/-  scalar.find: where a name stands in the table, and what find hands back. -/
import Derived.Test.YtddnkjeogidfcaaDoorFind
import Derived.Laws.EntriesVeiled
namespace Go.Proofs.YtddnkjeogidfcaaDoor
open Go.RowKit Go.Shelf Go

/-- Where a name stands among the functions' names; -1: nowhere. -/
def posOf (name : List UInt8) : Int := match names.findIdx? (· == name) with | some i => i | none => -1

theorem names_len : names.length = 9 := rfl

theorem posOf_hit {name : List UInt8} {k : Nat} (hk : k < 9) (h : (names.getD k [] == name) = true) (hn : ∀ j, j < k → (names.getD j [] == name) = false) : posOf name = k := by
  unfold posOf
  have : names.findIdx? (· == name) = some k := by
    rw [List.findIdx?_eq_some_iff_getElem]
    have hl : k < names.length := by rw [names_len]; exact hk
    refine ⟨hl, ?_, fun j hj => ?_⟩
    · rw [List.getD_eq_getElem?_getD, List.getElem?_eq_getElem hl] at h; exact h
    · have := hn j hj
      rw [List.getD_eq_getElem?_getD, List.getElem?_eq_getElem (by omega)] at this
      simp only [Option.getD_some] at this
      rw [this]; exact Bool.false_ne_true
  rw [this]
theorem posOf_none {name : List UInt8} (hn : ∀ j, j < 9 → (names.getD j [] == name) = false) : posOf name = -1 := by
  unfold posOf
  have : names.findIdx? (· == name) = none := by
    rw [List.findIdx?_eq_none_iff]
    intro x hx
    obtain ⟨j, hj, he⟩ := List.getElem_of_mem hx
    have := hn j (by rw [names_len] at hj; exact hj)
    rw [List.getD_eq_getElem?_getD, List.getElem?_eq_getElem hj] at this
    rw [← he]; exact this
  rw [this]
theorem posOf_lt (name : List UInt8) : posOf name < 9 ∧ -1 ≤ posOf name := by
  unfold posOf
  cases h : names.findIdx? (· == name) with
  | none => exact ⟨by decide, by decide⟩
  | some i =>
    rw [List.findIdx?_eq_some_iff_getElem] at h
    obtain ⟨hl, _⟩ := h
    rw [names_len] at hl
    exact ⟨by simp only []; omega, by simp only []; omega⟩

theorem nameB_toList (i : Nat) : (nameB i).toList = names.getD i [] := by
  unfold nameB; rw [Go.ByteArray.toList_eq]

set_option maxHeartbeats 1000000 in
theorem index_table (n B : Nat) (name : ByteArray) (w : World) (ht : FnTable w n) (hn : w.cell? ⟨B, 0, none⟩ = some (.string name)) :
    Calls Tryd.prog 43 #[.slice (some ⟨n + 16, 0, none⟩) 9 9, .func (.func 44) #[] #[.pointer (some ⟨B, 0, none⟩)]] w (Rets (.int .i64 (posOf name.toList)) w) := by
  have hB : B < w.heap.size := lt_of_cell hn
  have hcall := fun (W : World) (hb : Below w.heap.size w W) nm ks d => find_1 nm name ks d B W (cell_below hb hn) (Nat.lt_of_lt_of_le hB hb.size)
  have hrow := fun (W : World) (hb : Below w.heap.size w W) k hk => (ht.below hb).cells k hk
  clear ht hn
  go_enter Tryd.func43, Tryd.ntmps43
  go_wp2
  go_loopw [5, 8] (fun _ s8 wr => ∃ k : Nat, k ≤ 9 ∧ s8 = .int .i64 k ∧ Below w.heap.size w wr ∧ Hid (∀ j, j < k → (names.getD j [] == name.toList) = false)) (fun _ s8 _ => 9 - (intOf s8).toNat)
  case atStart => exact ⟨0, Nat.zero_le _, rfl, Below.refl _ _, fun j hj => absurd hj (Nat.not_lt_zero _)⟩
  case round =>
    obtain ⟨k, hk, rfl, hb, hn⟩ := hrel
    by_cases hlt : k < 9
    · obtain ⟨d0, d1, d2⟩ := hrow wr hb k hlt
      have hc := hcall wr hb (nameB k) (kindsV n k) (doV n k)
      clear hrow hcall
      rw [nameB_toList] at hc
      generalize nameB k = nm at *
      generalize kindsV n k = kv at *
      generalize doV n k = dv at *
      cases hq : (names.getD k [] == name.toList) with
      | true =>
        rw [hq] at hc
        have HQ := Lib.hid hq
        clear hq
        go_wp2_with (go_at_call 44; refine hc.mono ?_; rintro e w' ⟨rfl, hb'⟩)
        go_returns
        exact Rets.int (posOf_hit hlt HQ.out hn.out).symm (hb.trans (hb'.mono hb.size))
      | false =>
        rw [hq] at hc
        have HQ := Lib.hid hq
        clear hq
        go_wp2_with (go_at_call 44; refine hc.mono ?_; rintro e w' ⟨rfl, hb'⟩)
        go_roundw
        case rel =>
          refine ⟨k + 1, by omega, by go_num, hb.trans (hb'.mono hb.size), fun j hj => ?_⟩
          rcases Nat.lt_succ_iff_lt_or_eq.1 hj with h | rfl
          · exact hn.out j h
          · exact HQ.out
        case measure => simp [intOf]; omega
    · have : k = 9 := by omega
      have hn' : Hid (∀ j, j < 9 → (names.getD j [] == name.toList) = false) := by subst this; exact hn
      clear hrow hcall hn this
      go_wp2
      go_returns
      exact Rets.int (posOf_none hn'.out).symm hb

theorem cell_set_other {w : World} {p a : Addr} {u v : Value} (h : w.cell? a = some v) (hne : a.block ≠ p.block) : (w.setCell p u).cell? a = some v := by
  rw [World.cell?_of_block (w := w) (heap_setCell_other w p a.block u hne)]; exact h

theorem FnTable.setCell {W : World} {n : Nat} (h : FnTable W n) {p : Addr} (hp : p.block < n) (u : Value) : FnTable (W.setCell p u) n where
  cells i hi := ⟨cell_set_other (h.cells i hi).1 (by simp only []; omega), cell_set_other (h.cells i hi).2.1 (by simp only []; omega), cell_set_other (h.cells i hi).2.2 (by simp only []; omega)⟩
  kinds i hi j k hk := cell_set_other (h.kinds i hi j k hk) (by simp only []; omega)
  lower := ⟨cell_set_other h.lower.1 (by simp only []; omega), cell_set_other h.lower.2.1 (by simp only []; omega), cell_set_other h.lower.2.2 (by simp only []; omega)⟩
  upper := ⟨cell_set_other h.upper.1 (by simp only []; omega), cell_set_other h.upper.2.1 (by simp only []; omega), cell_set_other h.upper.2.2 (by simp only []; omega)⟩
  trim := cell_set_other h.trim (by simp only []; omega)

theorem doV_func (n i : Nat) (hi : i < 9) : ∃ g cap, doV n i = .func (.func g) #[] cap := by
  have hc : i = 0 ∨ i = 1 ∨ i = 2 ∨ i = 3 ∨ i = 4 ∨ i = 5 ∨ i = 6 ∨ i = 7 ∨ i = 8 := by omega
  rcases hc with rfl | rfl | rfl | rfl | rfl | rfl | rfl | rfl | rfl <;> exact ⟨_, _, rfl⟩

/-- What find hands back. -/
def FindPost (name : List UInt8) (w : World) (e : Ending) (w' : World) : Prop :=
  Below w.heap.size w w' ∧
  ((posOf name = -1 ∧ e = .returned (.tuple #[.agg #[.string ⟨#[]⟩, .slice none 0 0, .nilFunc], .bool false])) ∨
   ∃ i n : Nat, i < 9 ∧ posOf name = i ∧ w.heap.size ≤ n ∧ FnTable w' n ∧ e = .returned (.tuple #[.agg #[.string (nameB i), kindsV n i, doV n i], .bool true]))

set_option maxHeartbeats 1000000 in
theorem scalar_find (name : ByteArray) (w : World) :
    Calls Tryd.prog 33 #[.string name] w (FindPost name.toList w) := by
  have hf := fun W => scalar_functions W
  go_enter Tryd.func33, Tryd.ntmps33
  go_wp2_with fail
  refine (hf _).mono ?_
  rintro e w1 ⟨rfl, hw⟩
  have hb1 := allocs_below (tableObjs ((w.alloc (.cells #[.string name] 9)).alloc (.cells #[.string ⟨#[]⟩, .slice none 0 0, .nilFunc] 55)).heap.size) ((w.alloc (.cells #[.string name] 9)).alloc (.cells #[.string ⟨#[]⟩, .slice none 0 0, .nilFunc] 55))
  have ht := table_ok ((w.alloc (.cells #[.string name] 9)).alloc (.cells #[.string ⟨#[]⟩, .slice none 0 0, .nilFunc] 55))
  rw [← hw] at hb1 ht
  clear hw
  have nb := cell_below hb1 (a := ⟨w.heap.size, 0, none⟩) (v := .string name) (by simp [go_sem])
  have r0 := cell_below hb1 (a := ⟨w.heap.size + 1, 0, none⟩) (v := .string ⟨#[]⟩) (by simp [go_sem])
  have r1 := cell_below hb1 (a := ⟨w.heap.size + 1, 1, none⟩) (v := .slice none 0 0) (by simp [go_sem])
  have r2 := cell_below hb1 (a := ⟨w.heap.size + 1, 2, none⟩) (v := .nilFunc) (by simp [go_sem])
  have hB := later (w := w) (by go_grown) hb1
  have fz0 : ∀ o, w1.frozen? ⟨w.heap.size + 1, o, none⟩ = false := fun o => by rw [(bcell hb1).2 _ _ (by simp)]; simp [go_sem]
  have hix := index_table _ _ name w1 ht nb
  have hsz : ((w.alloc (.cells #[.string name] 9)).alloc (.cells #[.string ⟨#[]⟩, .slice none 0 0, .nilFunc] 55)).heap.size = w.heap.size + 1 + 1 := by simp
  rw [hsz] at hix ht
  clear hb1 hf hsz
  go_wp2_with fail
  refine hix.mono ?_
  rintro e w2 ⟨rfl, hb2⟩
  have q0 := cell_below hb2 r0
  have q1 := cell_below hb2 r1
  have q2 := cell_below hb2 r2
  have hz : w.heap.size + 1 < w2.heap.size := lt_of_cell q0
  have fz : ∀ o, w2.frozen? ⟨w.heap.size + 1, o, none⟩ = false := fun o => by rw [(bcell hb2).2 _ _ (lt_of_cell r0)]; exact fz0 o
  have hB2 := later hB hb2
  have ht2 := ht.below hb2
  have hp := posOf_lt name.toList
  clear ht hix hb2 r0 r1 r2 nb hB fz0
  generalize hpos : posOf name.toList = pos at *
  have HP := Lib.hid hpos; clear hpos
  by_cases h0 : pos < 0
  · have h1 : pos = -1 := by omega
    subst h1
    clear hp h0 ht2
    go_wp2
    refine bodyPost_ret (ret_cells3 rfl rfl (by first | with_reducible exact stored3 q0 q1 q2) (Tryd.isAgg55 _) (Tryd.sizeOf55 _)) rfl ?_
    exact ⟨by go_grown, .inl ⟨HP.out, rfl⟩⟩
  · obtain ⟨i, rfl⟩ : ∃ i : Nat, pos = i := ⟨pos.toNat, by omega⟩
    have hi : i < 9 := by omega
    obtain ⟨c0, c1, c2⟩ := ht2.cells i hi
    have HT := Lib.hid ht2
    clear hp h0 ht2
    obtain ⟨g, cap, hdv⟩ := doV_func (w.heap.size + 1 + 1) i hi
    rw [hdv] at c2
    have HK : kindsV (w.heap.size + 1 + 1) i = .slice (some ⟨w.heap.size + 1 + 1 + kindsAt.getD i 0, 0, none⟩) (kindsOf.getD i []).length (kindsOf.getD i []).length := rfl
    rw [HK] at c1
    have HD := Lib.hid hdv
    clear hdv HK
    generalize hnm : nameB i = nm at *
    generalize hkb : w.heap.size + 1 + 1 + kindsAt.getD i 0 = kb at *
    generalize hkl : (kindsOf.getD i []).length = kl at *
    have HN := Lib.hid hnm; have HKB := Lib.hid hkb; have HKL := Lib.hid hkl
    clear hnm hkb hkl
    go_wp2
    refine bodyPost_ret (ret_cells3 rfl rfl (by first | with_reducible exact stored3 q0 q1 q2) (Tryd.isAgg55 _) (Tryd.sizeOf55 _)) rfl ?_
    refine ⟨by go_grown, .inr ⟨i, w.heap.size + 1 + 1, hi, HP.out, by omega, ?_, ?_⟩⟩
    · exact ((HT.out.setCell (by simp only []; omega) _).setCell (by simp only []; omega) _).setCell (by simp only []; omega) _
    · rw [HD.out, HN.out]; unfold kindsV; rw [HKB.out, HKL.out]; rfl
end Go.Proofs.YtddnkjeogidfcaaDoor
