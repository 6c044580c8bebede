/-  The plain law under ScalarParts: a text is its first bytes and the others; the others are found no further than there. -/
import Derived.Test.YtddnkjeogidfcaaDoorCallFn
import Derived.Lib.IndexMore
import Derived.Lib.IndexBytes
namespace Go.Proofs.YtddnkjeogidfcaaDoor
open Go

theorem bx {a b : ByteArray} (h : a.data.toList = b.data.toList) : a = b := by
  cases a; cases b; simp only [ByteArray.mk.injEq]; exact Array.toList_inj.1 h
theorem ex_list (s : ByteArray) (i j : Nat) : (s.extract i j).data.toList = (s.data.toList.take j).drop i := by
  rw [ByteArray.data_extract, Array.toList_extract, List.extract_eq_take_drop, List.drop_take]
theorem size_list (s : ByteArray) : s.size = s.data.toList.length := by rfl
theorem cut_list (s : ByteArray) (f n : Int) : (cutS s f n).data.toList = (s.data.toList.drop (min (f - 1) (s.size : Int)).toNat).take n.toNat := by
  unfold cutS
  rw [ex_list, List.drop_zero, size_list (s.extract _ _), ex_list, size_list s, List.take_length]
  generalize s.data.toList = l
  generalize (min (f - 1) (l.length : Int)).toNat = m
  generalize l.drop m = r
  by_cases h : n ≤ r.length
  · rw [Int.min_eq_left h]
  · rw [Int.min_eq_right (by omega), Int.toNat_natCast, List.take_length, List.take_of_length_le (by omega)]

structure PartsLaw (s : ByteArray) (n : Int) : Prop where
  joined : cutS s 1 n ++ cutS s (n + 1) 5000 = s
  sizes : (cutS s 1 n).size + (cutS s (n + 1) 5000).size = s.size
  lo : 1 ≤ Lib.index s.data.toList (cutS s (n + 1) 5000).data.toList + 1
  hi : Lib.index s.data.toList (cutS s (n + 1) 5000).data.toList + 1 ≤ n + 1
  back : cutS s (Lib.index s.data.toList (cutS s (n + 1) 5000).data.toList + 1) (cutS s (n + 1) 5000).size = cutS s (n + 1) 5000

theorem parts_law (s : ByteArray) (n : Int) (hn : 0 ≤ n) (hs : s.size ≤ 3000) : PartsLaw s n := by
  have ha := cut_list s 1 n
  have hb := cut_list s (n + 1) 5000
  have hz := size_list s
  have e1 : (min ((1 : Int) - 1) (s.size : Int)).toNat = 0 := by omega
  have e2 : (min (n + 1 - 1) (s.size : Int)).toNat = min n.toNat s.size := by omega
  rw [e1, List.drop_zero] at ha
  rw [e2, show (5000 : Int).toNat = 5000 from rfl, List.take_of_length_le (by rw [List.length_drop]; omega)] at hb
  have hb2 : (cutS s (n + 1) 5000).data.toList = s.data.toList.drop n.toNat := by
    rw [hb]
    by_cases h : n.toNat ≤ s.size
    · rw [Nat.min_eq_left h]
    · rw [Nat.min_eq_right (by omega), List.drop_of_length_le (by omega), List.drop_of_length_le (by omega)]
  have hocc : Lib.occAt s.data.toList (cutS s (n + 1) 5000).data.toList (min n.toNat s.size) = true := by
    unfold Lib.occAt
    rw [hb, List.isPrefixOf_iff_prefix]
    exact List.prefix_refl _
  have hsp := Lib.index_spec s.data.toList (cutS s (n + 1) 5000).data.toList
  have hbs : (cutS s (n + 1) 5000).size = (s.data.toList.drop n.toNat).length := by rw [size_list, hb2]
  have has : (cutS s 1 n).size = (s.data.toList.take n.toNat).length := by rw [size_list, ha]
  obtain ⟨i, hi, hle, ho, hno⟩ : ∃ i : Nat, Lib.index s.data.toList (cutS s (n + 1) 5000).data.toList = i ∧ i ≤ s.data.toList.length ∧ Lib.occAt s.data.toList (cutS s (n + 1) 5000).data.toList i = true ∧ Lib.NoOcc s.data.toList (cutS s (n + 1) 5000).data.toList i := by
    rcases hsp with ⟨_, h⟩ | h
    · rw [h _ (by omega)] at hocc; cases hocc
    · exact h
  have him : i ≤ min n.toNat s.size := by
    by_cases h : i ≤ min n.toNat s.size
    · exact h
    · have := hno (min n.toNat s.size) (by omega)
      rw [hocc] at this; cases this
  refine ⟨bx ?_, ?_, ?_, ?_, bx ?_⟩
  · rw [ByteArray.data_append, Array.toList_append, ha, hb2, List.take_append_drop]
  · rw [has, hbs, List.length_take, List.length_drop]; omega
  · omega
  · omega
  · rw [cut_list, hi, hbs, ← hb2]
    unfold Lib.occAt at ho
    rw [List.isPrefixOf_iff_prefix, List.prefix_iff_eq_take] at ho
    rw [show (min ((i : Int) + 1 - 1) (s.size : Int)).toNat = i from by omega, Int.toNat_natCast]
    exact ho.symm

theorem substr_one (s : ByteArray) (n : Int) (hn : 0 ≤ n) : substrS (GV.text s) 1 n = (GV.text (cutS s 1 n), 0) := by
  unfold substrS
  rw [if_neg (by omega), if_neg (by omega)]
  rfl
theorem substr_from (s : ByteArray) (f n : Int) (hf : 1 ≤ f) (hn : 0 ≤ n) : substrS (GV.text s) f n = (GV.text (cutS s f n), 0) := by
  unfold substrS
  rw [if_neg (by omega), if_neg (by omega)]
  rfl
theorem join_texts (a b : ByteArray) : joinS (GV.text a) (GV.text b) = (GV.text (a ++ b), 0) := by
  unfold joinS
  rw [text_ok, text_ok]
  rfl
end Go.Proofs.YtddnkjeogidfcaaDoor
