/-  value.Same: whether two values are one. -/
import Derived.Test.YtddnkjeogidfcaaDoorArity
namespace Go.Proofs.YtddnkjeogidfcaaDoor
open Go.RowKit Go.Shelf Go

def sameB (a b : GV) : Bool := a.k == b.k && a.i == b.i && a.s.toList == b.s.toList

theorem bytes_eq {a b : ByteArray} (h : a.toList = b.toList) : a = b := by
  rw [Go.ByteArray.toList_eq, Go.ByteArray.toList_eq] at h
  obtain ⟨⟨x⟩⟩ := a; obtain ⟨⟨y⟩⟩ := b
  simp only at h; rw [h]

theorem sameB_iff (a b : GV) : sameB a b = true ↔ a = b := by
  unfold sameB
  simp only [Bool.and_eq_true, beq_iff_eq]
  constructor
  · rintro ⟨⟨h1, h2⟩, h3⟩
    obtain ⟨k, i, s⟩ := a; obtain ⟨k', i', s'⟩ := b
    simp only at h1 h2 h3
    rw [h1, h2, bytes_eq h3]
  · rintro rfl; exact ⟨⟨rfl, rfl⟩, rfl⟩

set_option maxHeartbeats 1000000 in
theorem value_Same (a b : GV) (w : World) :
    Calls Tryd.prog 32 #[a.val, b.val] w (Rets (.bool (sameB a b)) w) := by
  unfold GV.val
  generalize hp : sameB a b = p
  have HP := Lib.hid hp; clear hp
  go_enter Tryd.func32, Tryd.ntmps32
  go_wp2
  all_goals go_returns
  all_goals refine Rets.bool ?_ (by go_grown)
  all_goals go_light
  all_goals (rw [← HP.out]; clear HP; unfold sameB; simp_all)
end Go.Proofs.YtddnkjeogidfcaaDoor
