/-  scalar.Arity: how many arguments a function takes. -/
import Derived.Test.YtddnkjeogidfcaaDoorFindB
namespace Go.Proofs.YtddnkjeogidfcaaDoor
open Go.RowKit Go.Shelf Go

def sCoalesce : List UInt8 := [99, 111, 97, 108, 101, 115, 99, 101]
def sNullif : List UInt8 := [110, 117, 108, 108, 105, 102]

def arityS (name : List UInt8) : Int × Int × Bool :=
  if name = sCoalesce then (1, -1, true)
  else if name = sNullif then (2, 2, true)
  else if posOf name < 0 then (0, 0, false)
  else (((kindsOf.getD (posOf name).toNat []).length : Nat), ((kindsOf.getD (posOf name).toNat []).length : Nat), true)

def ArityPost (p : Int × Int × Bool) (w : World) (e : Ending) (w' : World) : Prop := Rets (.tuple #[.int .i64 p.1, .int .i64 p.2.1, .bool p.2.2]) w e w'

theorem ArityPost.mk {a b : Int} {c : Bool} {p : Int × Int × Bool} {w w' : World} (h : p = (a, b, c)) (hb : Below w.heap.size w w') : ArityPost p w (.returned (.tuple #[.int .i64 a, .int .i64 b, .bool c])) w' := ⟨by rw [h], hb⟩

set_option maxHeartbeats 1000000 in
theorem scalar_Arity (name : ByteArray) (w : World) :
    Calls Tryd.prog 20 #[.string name] w (ArityPost (arityS name.toList) w) := by
  generalize hp : arityS name.toList = p
  have HP := Lib.hid hp; clear hp
  by_cases h1 : name.toList = sCoalesce
  · have e1 : (name.toList == [99, 111, 97, 108, 101, 115, 99, 101]) = true := by rw [h1]; rfl
    go_enter Tryd.func20, Tryd.ntmps20
    have H1 := Lib.hid h1; clear h1
    go_wp2
    go_returns
    exact ArityPost.mk (by rw [← HP.out]; unfold arityS; rw [if_pos H1.out]) (Below.refl _ _)
  · have e1 : (name.toList == [99, 111, 97, 108, 101, 115, 99, 101]) = false := beq_eq_false_iff_ne.2 h1
    by_cases h2 : name.toList = sNullif
    · have e2 : (name.toList == [110, 117, 108, 108, 105, 102]) = true := by rw [h2]; rfl
      have H1 := Lib.hid h1; clear h1
      have H2 := Lib.hid h2; clear h2
      go_enter Tryd.func20, Tryd.ntmps20
      go_wp2
      go_returns
      exact ArityPost.mk (by rw [← HP.out]; unfold arityS; rw [if_neg H1.out, if_pos H2.out]) (Below.refl _ _)
    · have e2 : (name.toList == [110, 117, 108, 108, 105, 102]) = false := beq_eq_false_iff_ne.2 h2
      have H1 := Lib.hid h1; clear h1
      have H2 := Lib.hid h2; clear h2
      have hf := scalar_find name w
      go_enter Tryd.func20, Tryd.ntmps20
      go_wp2_with fail
      refine hf.mono ?_
      rintro e w1 ⟨hb1, ⟨hpos, rfl⟩ | ⟨i, n, hi, hpos, hn, ht, rfl⟩⟩
      · have HPO := Lib.hid hpos; clear hpos hf
        go_wp2
        go_quiet (fail)
        go_wp2
        go_returns
        exact ArityPost.mk (by rw [← HP.out]; unfold arityS; rw [if_neg H1.out, if_neg H2.out, HPO.out]; rfl) (belowN (hb1.alloc hb1.size _) _)
      · have HPO := Lib.hid hpos; clear hpos hf ht
        unfold kindsV
        generalize hkl : (kindsOf.getD i []).length = kl at *
        have HK := Lib.hid hkl; clear hkl
        obtain ⟨g, cap, hd⟩ := doV_func n i hi
        rw [hd]
        clear hd
        go_wp2
        go_quiet (fail)
        go_wp2
        go_returns
        exact ArityPost.mk (by rw [← HP.out]; unfold arityS; rw [if_neg H1.out, if_neg H2.out, HPO.out, if_neg (by omega)]; simp only [Int.toNat_natCast, HK.out]) (belowN (hb1.alloc hb1.size _) _)
end Go.Proofs.YtddnkjeogidfcaaDoor
