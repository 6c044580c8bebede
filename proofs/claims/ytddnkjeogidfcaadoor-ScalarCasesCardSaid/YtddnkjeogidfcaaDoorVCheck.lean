/-  value.Check: 0 just if the value may be, else 1. -/
import Derived.Test.YtddnkjeogidfcaaDoorGV
import Derived.Test.YtddnkjeogidfcaaDoorProg
import Derived.WalkKit
import Derived.WalkSpells
import Derived.WalkLawsBesides
import Derived.Handy
import Derived.Deep.Light
namespace Go.Proofs.YtddnkjeogidfcaaDoor
open Go.RowKit

def okNo (b : Bool) : Int := if b then 0 else 1

set_option maxHeartbeats 1000000 in
theorem value_Check (v : GV) (w : World) (hi : I64 v.i) :
    Calls Tryd.prog 36 #[v.val] w (Rets (.int .i64 (okNo v.ok)) w) := by
  obtain ⟨k, i, s⟩ := v
  have hb := andNot_one i hi
  show Calls _ _ #[.agg #[.int .i64 k, .int .i64 i, .string s]] _ _
  go_enter Tryd.func36, Tryd.ntmps36
  go_wp2
  all_goals go_returns
  all_goals (refine Rets.int ?_ (by go_grown))
  all_goals go_light
  all_goals (clear hi hb; unfold okNo GV.ok; simp_all <;> omega)
end Go.Proofs.YtddnkjeogidfcaaDoor
