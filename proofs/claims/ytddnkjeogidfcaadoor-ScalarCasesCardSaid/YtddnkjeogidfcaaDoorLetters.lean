/-  scalar.letters' closure: letters of one kind turned. -/
import Derived.Test.YtddnkjeogidfcaaDoorOf
import Derived.Laws.IdiomStrings
namespace Go.Proofs.YtddnkjeogidfcaaDoor
open Go.RowKit Go.Shelf Go

def turnB (f t : Nat) (c : UInt8) : UInt8 := if f ≤ c.toNat ∧ c.toNat < f + 26 then UInt8.ofNat (c.toNat - f + t) else c

theorem turnB_in {f t : Nat} {c : UInt8} (h1 : f ≤ c.toNat) (h2 : c.toNat < f + 26) (h3 : t + 26 ≤ 256) : ((turnB f t c).toNat : Int) = (c.toNat : Int) - f + t := by
  unfold turnB
  rw [if_pos ⟨h1, h2⟩, UInt8.toNat_ofNat']
  omega
theorem turnB_out {f t : Nat} {c : UInt8} (h : ¬ (f ≤ c.toNat ∧ c.toNat < f + 26)) : turnB f t c = c := by
  unfold turnB
  rw [if_neg h]

theorem letters_keep {w : World} {B k : Nat} {l : List UInt8} {g : UInt8 → UInt8} {c : UInt8} (hc : ∀ (j : Nat) (c : UInt8), l[j]? = some c → w.cell? ⟨B, j, none⟩ = some (.int .u8 ((if j < k then g c else c).toNat : Int))) (hk : l[k]? = some c) (hg : g c = c)
    {j : Nat} {c' : UInt8} (hj : l[j]? = some c') : w.cell? ⟨B, j, none⟩ = some (.int .u8 ((if j < k + 1 then g c' else c').toNat : Int)) := by
  rw [hc j c' hj]
  by_cases h1 : j < k
  · rw [if_pos h1, if_pos (by omega)]
  · rw [if_neg h1]
    by_cases h2 : j = k
    · subst h2
      have : c' = c := Option.some.inj (hj.symm.trans hk)
      subst this
      rw [if_pos (by omega), hg]
    · rw [if_neg (by omega)]

set_option maxHeartbeats 1000000 in
theorem letters_lower (s : ByteArray) (bf bt : Nat) (w : World) (hbf : w.cell? ⟨bf, 0, none⟩ = some (.int .u8 65)) (hbt : w.cell? ⟨bt, 0, none⟩ = some (.int .u8 97)) (hs : s.size ≤ 281474976710656) :
    Calls Tryd.prog 64 #[.string s, .pointer (some ⟨bf, 0, none⟩), .pointer (some ⟨bt, 0, none⟩)] w (Rets (.string ⟨(s.data.toList.map (turnB 65 97)).toArray⟩) w) := by
  have hconv := run_bytes_of_string (P := Tryd.prog) w 9 80 5 s Tryd.underlying9 Tryd.underlying80 Tryd.underlying5
  generalize grownCap w s.size 0 5 = cap at hconv
  have hrow := bytesRow_at s cap
  generalize bytesRow s cap = C at hconv hrow
  have hfz : w.heap.size < w.heap.size + 1 := by omega
  have hzf : bf < w.heap.size := lt_of_cell hbf
  have hzt : bt < w.heap.size := lt_of_cell hbt
  go_enter Tryd.func64, Tryd.ntmps64
  go_wp2_with fail
  have hl : s.data.toList.length = s.size := rfl
  go_loopw [6, 7, 12] (fun _ _ s12 wr => ∃ k : Nat, k ≤ s.size ∧ s12 = .int .i64 k ∧ Below w.heap.size w wr ∧ Hid (∀ (j : Nat) (c : UInt8), s.data.toList[j]? = some c → wr.cell? ⟨w.heap.size, j, none⟩ = some (.int .u8 ((if j < k then turnB 65 97 c else c).toNat : Int))) ∧ Hid (∀ o, o < s.size → wr.frozen? ⟨w.heap.size, o, none⟩ = false)) (fun _ _ s12 _ => s.size - (intOf s12).toNat)
  case atStart =>
    have hCs : ∀ j, j < s.size → j < C.size := fun j hj => (Array.getElem?_eq_some_iff.1 (hrow j hj)).1
    refine ⟨0, Nat.zero_le _, rfl, (((Below.refl w.heap.size w).alloc (Nat.le_refl _) _).drew), fun j c hj => ?_, fun o ho => ?_⟩
    · have hjs : j < s.size := by have := (List.getElem?_eq_some_iff.1 hj).1; omega
      have h1 := hrow j hjs
      have h2 : s.data[j] = c := by
        obtain ⟨h3, h4⟩ := List.getElem?_eq_some_iff.1 hj
        rw [← h4]; simp
      rw [h2] at h1
      rw [if_neg (Nat.not_lt_zero _), ← h1]
      exact World.cell?_alloc_mark w C 5 _ j
    · have h2 := World.frozen?_alloc_mark w C 5 C.size (C.size + 1) o
      have h3 := hCs o ho
      rw [decide_eq_false (by omega), Bool.false_and] at h2
      exact h2
  case round =>
    obtain ⟨k, hk, rfl, hb, hc, hf⟩ := hrel
    by_cases hlt : k < s.size
    · obtain ⟨c, hck⟩ : ∃ c, s.data.toList[k]? = some c := ⟨_, List.getElem?_eq_getElem (by omega)⟩
      have cc := hc.out k c hck
      rw [if_neg (Nat.lt_irrefl _)] at cc
      have ff := hf.out k hlt
      have yf := cell_below hb hbf
      have yt := cell_below hb hbt
      have hz := lt_of_cell cc
      have hcb : c.toNat < 256 := c.toNat_lt
      have HCK := Lib.hid hck
      clear hck hconv hrow
      have hfar : bf ≠ w.heap.size ∧ bt ≠ w.heap.size := by omega
      by_cases h1 : (65 : Int) ≤ (c.toNat : Int)
      · by_cases h2 : (c.toNat : Int) < 91
        · go_wp2_with fail
          refine ⟨⟨k + 1, by omega, by go_num, hb.setCell (Nat.le_refl _) _, fun j c' hj => ?_, fun o ho => ?_⟩, by simp [intOf]; omega⟩
          · by_cases hjk : j = k
            · subst hjk
              have hcc : c' = c := Option.some.inj (hj.symm.trans HCK.out)
              subst hcc
              rw [World.cell?_setCell_same _ _ _ cc, if_pos (Nat.lt_succ_self _), turnB_in (f := 65) (t := 97) (by omega) (by omega) (by omega)]
              congr 2
            · rw [World.cell?_setCell_other _ _ _ _ (fun e => hjk (by simpa using e.symm)), hc.out j c' hj]
              by_cases hjl : j < k
              · rw [if_pos hjl, if_pos (by omega)]
              · rw [if_neg hjl, if_neg (by omega)]
          · rw [World.frozen?_setCell]; exact hf.out o ho
        · go_wp2_with fail
          refine ⟨⟨k + 1, by omega, by go_num, hb, fun j c' hj => ?_, hf.out⟩, by simp [intOf]; omega⟩
          exact letters_keep hc.out HCK.out (turnB_out (f := 65) (t := 97) (by omega)) hj
      · go_wp2_with fail
        refine ⟨⟨k + 1, by omega, by go_num, hb, fun j c' hj => ?_, hf.out⟩, by simp [intOf]; omega⟩
        exact letters_keep hc.out HCK.out (turnB_out (f := 65) (t := 97) (by omega)) hj
    · have hkn : k = s.size := by omega
      subst hkn
      have hback := run_convert_bytes_back (P := Tryd.prog) wr 80 9 5 ⟨w.heap.size, 0, none⟩ cap (s.data.toList.map (turnB 65 97)) Tryd.underlying80 Tryd.underlying5 Tryd.underlying9 (fun j hj => by
        rw [List.length_map] at hj
        have h1 := hc.out j _ (List.getElem?_eq_getElem hj)
        rw [if_pos (by omega)] at h1
        rw [List.getElem_map]
        rw [show (⟨w.heap.size, 0, none⟩ : Addr).add j = ⟨w.heap.size, j, none⟩ from by cases j <;> simp [Addr.add]]
        simpa using h1)
      rw [List.length_map, hl] at hback
      clear hconv hrow hc hf
      generalize (s.data.toList.map (turnB 65 97)).toArray = out at *
      go_wp2
      go_returns
      exact Rets.mk rfl hb

set_option maxHeartbeats 1000000 in
theorem letters_upper (s : ByteArray) (bf bt : Nat) (w : World) (hbf : w.cell? ⟨bf, 0, none⟩ = some (.int .u8 97)) (hbt : w.cell? ⟨bt, 0, none⟩ = some (.int .u8 65)) (hs : s.size ≤ 281474976710656) :
    Calls Tryd.prog 64 #[.string s, .pointer (some ⟨bf, 0, none⟩), .pointer (some ⟨bt, 0, none⟩)] w (Rets (.string ⟨(s.data.toList.map (turnB 97 65)).toArray⟩) w) := by
  have hconv := run_bytes_of_string (P := Tryd.prog) w 9 80 5 s Tryd.underlying9 Tryd.underlying80 Tryd.underlying5
  generalize grownCap w s.size 0 5 = cap at hconv
  have hrow := bytesRow_at s cap
  generalize bytesRow s cap = C at hconv hrow
  have hfz : w.heap.size < w.heap.size + 1 := by omega
  have hzf : bf < w.heap.size := lt_of_cell hbf
  have hzt : bt < w.heap.size := lt_of_cell hbt
  go_enter Tryd.func64, Tryd.ntmps64
  go_wp2_with fail
  have hl : s.data.toList.length = s.size := rfl
  go_loopw [6, 7, 12] (fun _ _ s12 wr => ∃ k : Nat, k ≤ s.size ∧ s12 = .int .i64 k ∧ Below w.heap.size w wr ∧ Hid (∀ (j : Nat) (c : UInt8), s.data.toList[j]? = some c → wr.cell? ⟨w.heap.size, j, none⟩ = some (.int .u8 ((if j < k then turnB 97 65 c else c).toNat : Int))) ∧ Hid (∀ o, o < s.size → wr.frozen? ⟨w.heap.size, o, none⟩ = false)) (fun _ _ s12 _ => s.size - (intOf s12).toNat)
  case atStart =>
    have hCs : ∀ j, j < s.size → j < C.size := fun j hj => (Array.getElem?_eq_some_iff.1 (hrow j hj)).1
    refine ⟨0, Nat.zero_le _, rfl, (((Below.refl w.heap.size w).alloc (Nat.le_refl _) _).drew), fun j c hj => ?_, fun o ho => ?_⟩
    · have hjs : j < s.size := by have := (List.getElem?_eq_some_iff.1 hj).1; omega
      have h1 := hrow j hjs
      have h2 : s.data[j] = c := by
        obtain ⟨h3, h4⟩ := List.getElem?_eq_some_iff.1 hj
        rw [← h4]; simp
      rw [h2] at h1
      rw [if_neg (Nat.not_lt_zero _), ← h1]
      exact World.cell?_alloc_mark w C 5 _ j
    · have h2 := World.frozen?_alloc_mark w C 5 C.size (C.size + 1) o
      have h3 := hCs o ho
      rw [decide_eq_false (by omega), Bool.false_and] at h2
      exact h2
  case round =>
    obtain ⟨k, hk, rfl, hb, hc, hf⟩ := hrel
    by_cases hlt : k < s.size
    · obtain ⟨c, hck⟩ : ∃ c, s.data.toList[k]? = some c := ⟨_, List.getElem?_eq_getElem (by omega)⟩
      have cc := hc.out k c hck
      rw [if_neg (Nat.lt_irrefl _)] at cc
      have ff := hf.out k hlt
      have yf := cell_below hb hbf
      have yt := cell_below hb hbt
      have hz := lt_of_cell cc
      have hcb : c.toNat < 256 := c.toNat_lt
      have HCK := Lib.hid hck
      clear hck hconv hrow
      have hfar : bf ≠ w.heap.size ∧ bt ≠ w.heap.size := by omega
      by_cases h1 : (97 : Int) ≤ (c.toNat : Int)
      · by_cases h2 : (c.toNat : Int) < 123
        · go_wp2_with fail
          refine ⟨⟨k + 1, by omega, by go_num, hb.setCell (Nat.le_refl _) _, fun j c' hj => ?_, fun o ho => ?_⟩, by simp [intOf]; omega⟩
          · by_cases hjk : j = k
            · subst hjk
              have hcc : c' = c := Option.some.inj (hj.symm.trans HCK.out)
              subst hcc
              rw [World.cell?_setCell_same _ _ _ cc, if_pos (Nat.lt_succ_self _), turnB_in (f := 97) (t := 65) (by omega) (by omega) (by omega)]
              congr 2
            · rw [World.cell?_setCell_other _ _ _ _ (fun e => hjk (by simpa using e.symm)), hc.out j c' hj]
              by_cases hjl : j < k
              · rw [if_pos hjl, if_pos (by omega)]
              · rw [if_neg hjl, if_neg (by omega)]
          · rw [World.frozen?_setCell]; exact hf.out o ho
        · go_wp2_with fail
          refine ⟨⟨k + 1, by omega, by go_num, hb, fun j c' hj => ?_, hf.out⟩, by simp [intOf]; omega⟩
          exact letters_keep hc.out HCK.out (turnB_out (f := 97) (t := 65) (by omega)) hj
      · go_wp2_with fail
        refine ⟨⟨k + 1, by omega, by go_num, hb, fun j c' hj => ?_, hf.out⟩, by simp [intOf]; omega⟩
        exact letters_keep hc.out HCK.out (turnB_out (f := 97) (t := 65) (by omega)) hj
    · have hkn : k = s.size := by omega
      subst hkn
      have hback := run_convert_bytes_back (P := Tryd.prog) wr 80 9 5 ⟨w.heap.size, 0, none⟩ cap (s.data.toList.map (turnB 97 65)) Tryd.underlying80 Tryd.underlying5 Tryd.underlying9 (fun j hj => by
        rw [List.length_map] at hj
        have h1 := hc.out j _ (List.getElem?_eq_getElem hj)
        rw [if_pos (by omega)] at h1
        rw [List.getElem_map]
        rw [show (⟨w.heap.size, 0, none⟩ : Addr).add j = ⟨w.heap.size, j, none⟩ from by cases j <;> simp [Addr.add]]
        simpa using h1)
      rw [List.length_map, hl] at hback
      clear hconv hrow hc hf
      generalize (s.data.toList.map (turnB 97 65)).toArray = out at *
      go_wp2
      go_returns
      exact Rets.mk rfl hb

def lowerS (x : GV) : GV × Int := (GV.text ⟨(x.s.data.toList.map (turnB 65 97)).toArray⟩, 0)
def upperS (x : GV) : GV × Int := (GV.text ⟨(x.s.data.toList.map (turnB 97 65)).toArray⟩, 0)
theorem does_lower (x : GV) (hs : x.s.size ≤ 281474976710656) : Does 3 [x] (lowerS x) := fun n W v _ ht hv =>
  ⟨_, _, rfl, enters_of Tryd.func62 (by kernel_rfl) rfl, of_1 64 _ (enters_of Tryd.func64 (by kernel_rfl) rfl) x _ _ v W hv ht.lower.1 (fun W' hb => letters_lower x.s _ _ W' (cell_below hb ht.lower.2.1) (cell_below hb ht.lower.2.2) hs)⟩
theorem does_upper (x : GV) (hs : x.s.size ≤ 281474976710656) : Does 4 [x] (upperS x) := fun n W v _ ht hv =>
  ⟨_, _, rfl, enters_of Tryd.func62 (by kernel_rfl) rfl, of_1 64 _ (enters_of Tryd.func64 (by kernel_rfl) rfl) x _ _ v W hv ht.upper.1 (fun W' hb => letters_upper x.s _ _ W' (cell_below hb ht.upper.2.1) (cell_below hb ht.upper.2.2) hs)⟩
end Go.Proofs.YtddnkjeogidfcaaDoor
