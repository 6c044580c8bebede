/-  What every row's world gives: the library's own variable holds some number. -/
import Derived.Test.YtddnkjeogidfcaaDoorCallFn
namespace Go.Proofs.YtddnkjeogidfcaaDoor
theorem someMax_of_shaped {w : World} (h : w.ShapedOpen Tryd.prog) : SomeMax w := Tryd.laysM144.s1_3 w h
end Go.Proofs.YtddnkjeogidfcaaDoor
