/-  scalar.check, scalar.null and their closures; num, Int1, Text1. -/
import Derived.Test.YtddnkjeogidfcaaDoorVS
import Derived.Test.YtddnkjeogidfcaaDoorVCheck
import Derived.Test.YtddnkjeogidfcaaDoorScal
namespace Go.Proofs.YtddnkjeogidfcaaDoor
open Go.RowKit Go.Shelf Go

set_option maxHeartbeats 400000 in
theorem check_1 (v : GV) (w : World) (hi : I64 v.i) :
    Calls Tryd.prog 35 #[v.val] w (Rets (.bool (!v.ok)) w) := by
  have hc := fun W => value_Check v W hi
  clear hi
  unfold GV.val at *
  generalize hk : v.ok = q at *
  have HK := Lib.hid hk; clear hk
  go_enter Tryd.func35, Tryd.ntmps35
  cases q
  all_goals
    unfold okNo at hc
    go_wp2_with (go_at_call 36; refine (hc _).mono ?_; rintro e w' ⟨rfl, hb'⟩)
    go_returns
    exact Rets.bool rfl (((Below.refl _ _).alloc (Nat.le_refl _) _).trans (hb'.mono (by simp)))

set_option maxHeartbeats 400000 in
theorem null_1 (v : GV) (w : World) :
    Calls Tryd.prog 38 #[v.val] w (Rets (.bool (v.k == 0)) w) := by
  unfold GV.val at *
  go_enter Tryd.func38, Tryd.ntmps38
  go_wp2
  go_returns
  exact Rets.bool rfl ((Below.refl _ _).alloc (Nat.le_refl _) _)

set_option maxHeartbeats 400000 in
theorem scalar_check (v : Value) (l : List GV) (w : World) (hv : VS w v l) (hi : ∀ x, x ∈ l → I64 x.i) :
    Calls Tryd.prog 22 #[v] w (Rets (.bool (l.all GV.ok)) w) := by
  have hc := slices_ContainsFunc 35 #[] (enters_of Tryd.func35 (by kernel_rfl) rfl) (fun x => !x.ok) v l w hv (fun W _ x hx => check_1 x W (hi x hx))
  have he : (!l.any fun x => !x.ok) = l.all GV.ok := by rw [List.all_eq_not_any_not]
  clear hv hi
  generalize l.any (fun x => !x.ok) = q at *
  have HE := Lib.hid he; clear he
  go_enter Tryd.func22, Tryd.ntmps22
  go_wp2_with (go_at_call 34; refine hc.mono ?_; rintro e w' ⟨rfl, hb'⟩)
  go_returns
  exact Rets.bool HE.out hb'

set_option maxHeartbeats 400000 in
theorem scalar_null (v : Value) (l : List GV) (w : World) (hv : VS w v l) :
    Calls Tryd.prog 24 #[v] w (Rets (.bool (l.any fun x => x.k == 0)) w) := by
  have hc := slices_ContainsFunc 38 #[] (enters_of Tryd.func38 (by kernel_rfl) rfl) (fun x => x.k == 0) v l w hv (fun W _ x _ => null_1 x W)
  clear hv
  generalize l.any (fun x => x.k == 0) = q at *
  go_enter Tryd.func24, Tryd.ntmps24
  go_wp2_with (go_at_call 34; refine hc.mono ?_; rintro e w' ⟨rfl, hb'⟩)
  go_returns
  exact Rets.bool rfl hb'

def GV.num (n : Int) : GV := ⟨2, n, ⟨#[]⟩⟩
def GV.text (s : ByteArray) : GV := ⟨3, 0, s⟩
def GV.none : GV := ⟨0, 0, ⟨#[]⟩⟩

set_option maxHeartbeats 400000 in
theorem scalar_num (n : Int) (w : World) :
    Calls Tryd.prog 26 #[.int .i64 n] w (Rets (GV.num n).val w) := by
  unfold GV.val GV.num
  go_enter Tryd.func26, Tryd.ntmps26
  go_wp2
  go_returns
  exact Rets.mk rfl (by go_grown)

set_option maxHeartbeats 400000 in
theorem ref_Int1 (n : Int) (w : World) :
    Calls Tryd.prog 16 #[.int .i64 n] w (Rets (GV.num n).val w) := by
  unfold GV.val GV.num
  go_enter Tryd.func16, Tryd.ntmps16
  go_wp2
  go_returns
  exact Rets.mk rfl (by go_grown)

set_option maxHeartbeats 400000 in
theorem ref_Text1 (s : ByteArray) (w : World) :
    Calls Tryd.prog 17 #[.string s] w (Rets (GV.text s).val w) := by
  unfold GV.val GV.text
  go_enter Tryd.func17, Tryd.ntmps17
  go_wp2
  go_returns
  exact Rets.mk rfl (by go_grown)

end Go.Proofs.YtddnkjeogidfcaaDoor
