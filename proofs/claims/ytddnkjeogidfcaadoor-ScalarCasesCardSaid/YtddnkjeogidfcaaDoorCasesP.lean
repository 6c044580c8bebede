/-  The plain law under ScalarCases; the calls by name. -/
import Derived.Test.YtddnkjeogidfcaaDoorLetters
import Derived.Test.YtddnkjeogidfcaaDoorRepl
import Derived.Lib.TrimByte
namespace Go.Proofs.YtddnkjeogidfcaaDoor
open Go Go.RowKit

theorem up_lo (c : UInt8) : turnB 97 65 (turnB 65 97 c) = turnB 97 65 c := by
  have h : ∀ n : Fin 256, turnB 97 65 (turnB 65 97 (UInt8.ofFin n)) = turnB 97 65 (UInt8.ofFin n) := by decide +kernel
  exact h c.toFin
theorem lo_up (c : UInt8) : turnB 65 97 (turnB 97 65 c) = turnB 65 97 c := by
  have h : ∀ n : Fin 256, turnB 65 97 (turnB 97 65 (UInt8.ofFin n)) = turnB 65 97 (UInt8.ofFin n) := by decide +kernel
  exact h c.toFin
theorem dw_head (p : UInt8 → Bool) (l : List UInt8) (b : UInt8) (r : List UInt8) (h : l.dropWhile p = b :: r) : p b = false := by
  have := List.head?_dropWhile_not p l
  rw [h] at this
  simpa using this
theorem dw_fix (p : UInt8 → Bool) (l : List UInt8) (h : ∀ b r, l = b :: r → p b = false) : l.dropWhile p = l := by
  cases l with
  | nil => rfl
  | cons b r => rw [List.dropWhile_cons, h b r rfl]; rfl
theorem dw_suffix (p : UInt8 → Bool) (l : List UInt8) : ∃ a, l = a ++ l.dropWhile p := ⟨l.takeWhile p, (List.takeWhile_append_dropWhile).symm⟩

theorem trim_facts (l : List UInt8) (c : UInt8) : (∀ b r, Lib.trimB l c = b :: r → b ≠ c) ∧ (∀ b r, Lib.trimB l c = r ++ [b] → b ≠ c) := by
  unfold Lib.trimB Lib.trimLeftB
  refine ⟨fun b r h => ?_, fun b r h => ?_⟩
  · have := dw_head _ _ b r h
    simpa using this
  · obtain ⟨a, ha⟩ := dw_suffix (· == c) (Lib.trimRightB l c)
    rw [h] at ha
    unfold Lib.trimRightB at ha
    have hr := congrArg List.reverse ha
    rw [List.reverse_reverse, ← List.append_assoc, List.reverse_append] at hr
    have := dw_head _ _ b _ hr
    simpa using this
theorem trim_twice (l : List UInt8) (c : UInt8) : Lib.trimB (Lib.trimB l c) c = Lib.trimB l c := by
  obtain ⟨h1, h2⟩ := trim_facts l c
  generalize Lib.trimB l c = t at *
  have hr : Lib.trimRightB t c = t := by
    unfold Lib.trimRightB
    rw [dw_fix, List.reverse_reverse]
    intro b r h
    have : t = r.reverse ++ [b] := by rw [← List.reverse_reverse t, h, List.reverse_cons]
    simpa using h2 b _ this
  unfold Lib.trimB Lib.trimLeftB
  rw [hr]
  exact dw_fix _ _ fun b r h => by simpa using h1 b r h

def upB (s : ByteArray) : ByteArray := ⟨(s.data.toList.map (turnB 97 65)).toArray⟩
def loB (s : ByteArray) : ByteArray := ⟨(s.data.toList.map (turnB 65 97)).toArray⟩
def trB (s : ByteArray) : ByteArray := ⟨(Lib.trimB s.data.toList 32).toArray⟩
theorem upB_loB (s : ByteArray) : upB (loB s) = upB s := by
  unfold upB loB
  simp only [List.map_map]
  congr 2
  exact List.map_congr_left fun c _ => up_lo c
theorem loB_upB (s : ByteArray) : loB (upB s) = loB s := by
  unfold upB loB
  simp only [List.map_map]
  congr 2
  exact List.map_congr_left fun c _ => lo_up c
theorem upB_size (s : ByteArray) : (upB s).size = s.size := by
  show (s.data.toList.map _).toArray.size = s.data.size
  simp
theorem loB_size (s : ByteArray) : (loB s).size = s.size := by
  show (s.data.toList.map _).toArray.size = s.data.size
  simp
theorem trB_trB (s : ByteArray) : trB (trB s) = trB s := by
  unfold trB
  simp only [trim_twice]

theorem trB_small (s : ByteArray) (h : s.size ≤ 9223372036854775807) : (trB s).size ≤ 9223372036854775807 := by
  have h1 : (Lib.trimB s.data.toList 32).length ≤ s.data.toList.length := by
    unfold Lib.trimB Lib.trimLeftB Lib.trimRightB
    refine Nat.le_trans ((List.dropWhile_suffix _).length_le) ?_
    rw [List.length_reverse]
    refine Nat.le_trans ((List.dropWhile_suffix _).length_le) ?_
    rw [List.length_reverse]; exact Nat.le_refl _
  have h2 : (trB s).size = (Lib.trimB s.data.toList 32).length := by
    show (Lib.trimB s.data.toList 32).toArray.size = _
    simp
  have h3 : s.data.toList.length = s.size := rfl
  omega
theorem trB_ends (s : ByteArray) : (∀ b r, (trB s).data.toList = b :: r → b ≠ 32) ∧ (∀ b r, (trB s).data.toList = r ++ [b] → b ≠ 32) := trim_facts s.data.toList 32

theorem ends0 {tr : ByteArray} (h : 0 < tr.size) (he : (∀ b r, tr.data.toList = b :: r → b ≠ 32) ∧ (∀ b r, tr.data.toList = r ++ [b] → b ≠ 32)) : ¬ ((tr[0].toNat : Int) = 32) := by
  intro h32
  have h1 : tr.data.toList = tr[0] :: tr.data.toList.tail := by
    obtain ⟨⟨l⟩⟩ := tr
    cases l with
    | nil => exact absurd h (Nat.lt_irrefl _)
    | cons b r => rfl
  refine he.1 _ _ h1 (UInt8.toNat_inj.1 ?_)
  have : tr[0].toNat = 32 := by omega
  rw [this]; rfl
theorem ends1 {tr : ByteArray} (h : 0 < tr.size) (he : (∀ b r, tr.data.toList = b :: r → b ≠ 32) ∧ (∀ b r, tr.data.toList = r ++ [b] → b ≠ 32)) : ¬ ((tr[tr.size - 1].toNat : Int) = 32) := by
  intro h32
  have hne : tr.data.toList ≠ [] := List.length_pos_iff.1 h
  have h1 : tr.data.toList = tr.data.toList.dropLast ++ [tr[tr.size - 1]] := by
    have := List.dropLast_concat_getLast hne
    rw [List.getLast_eq_getElem] at this
    exact this.symm
  refine he.2 _ _ h1 (UInt8.toNat_inj.1 ?_)
  have : tr[tr.size - 1].toNat = 32 := by omega
  rw [this]; rfl

def bLower : ByteArray := ⟨#[108, 111, 119, 101, 114]⟩
def bUpper : ByteArray := ⟨#[117, 112, 112, 101, 114]⟩
def bTrim : ByteArray := ⟨#[116, 114, 105, 109]⟩
def bReplace : ByteArray := ⟨#[114, 101, 112, 108, 97, 99, 101]⟩

theorem call_one (name : ByteArray) (i : Nat) (h1 : (name.toList == sCoalesce) = false) (h2 : (name.toList == sNullif) = false) (hpos : posOf name.toList = i) (hk : kindsOf.getD i [] = [8]) (s : ByteArray) (r : GV × Int) (hD : Does i [GV.text s] r) (v : Value) (w : World) (hv : VS w v [GV.text s]) (hmax : SomeMax w) :
    Calls Tryd.prog 18 #[.string name, v] w (Rets (.tuple #[r.1.val, .int .i64 r.2]) w) := by
  refine call_good name i h1 h2 hpos [GV.text s] v w hv hmax (fun x hx => ?_) ?_ (by rw [hk]; rfl) (fun j x kd hj hkd => ?_) rfl _ hD
  · simp only [List.mem_cons, List.not_mem_nil, or_false] at hx
    subst hx; unfold GV.text I64; simp
  · simp [text_ok]
  · rw [hk] at hkd
    match j with
    | 0 => cases hj; cases hkd; exact badText8 _
    | j + 1 => simp at hj

theorem call_lower (s : ByteArray) (hs : s.size ≤ 281474976710656) (v : Value) (w : World) (hv : VS w v [GV.text s]) (hmax : SomeMax w) :
    Calls Tryd.prog 18 #[.string bLower, v] w (Rets (.tuple #[(GV.text (loB s)).val, .int .i64 0]) w) :=
  call_one bLower 3 (by rw [Go.ByteArray.toList_eq]; decide) (by rw [Go.ByteArray.toList_eq]; decide) (by rw [Go.ByteArray.toList_eq]; decide) rfl s _ (does_lower (GV.text s) hs) v w hv hmax
theorem call_upper (s : ByteArray) (hs : s.size ≤ 281474976710656) (v : Value) (w : World) (hv : VS w v [GV.text s]) (hmax : SomeMax w) :
    Calls Tryd.prog 18 #[.string bUpper, v] w (Rets (.tuple #[(GV.text (upB s)).val, .int .i64 0]) w) :=
  call_one bUpper 4 (by rw [Go.ByteArray.toList_eq]; decide) (by rw [Go.ByteArray.toList_eq]; decide) (by rw [Go.ByteArray.toList_eq]; decide) rfl s _ (does_upper (GV.text s) hs) v w hv hmax
theorem call_trim (s : ByteArray) (hs : s.size ≤ 9223372036854775807) (v : Value) (w : World) (hv : VS w v [GV.text s]) (hmax : SomeMax w) :
    Calls Tryd.prog 18 #[.string bTrim, v] w (Rets (.tuple #[(GV.text (trB s)).val, .int .i64 0]) w) :=
  call_one bTrim 5 (by rw [Go.ByteArray.toList_eq]; decide) (by rw [Go.ByteArray.toList_eq]; decide) (by rw [Go.ByteArray.toList_eq]; decide) rfl s _ (does_trim (GV.text s) hs) v w hv hmax
theorem call_replace (s t : ByteArray) (hs : s.size ≤ 100000) (v : Value) (w : World) (hv : VS w v [GV.text s, GV.text t, GV.text t]) (hmax : SomeMax w) :
    Calls Tryd.prog 18 #[.string bReplace, v] w (Rets (.tuple #[(GV.text s).val, .int .i64 0]) w) := by
  refine call_good bReplace 8 (by rw [Go.ByteArray.toList_eq]; decide) (by rw [Go.ByteArray.toList_eq]; decide) (by rw [Go.ByteArray.toList_eq]; decide) [GV.text s, GV.text t, GV.text t] v w hv hmax (fun x hx => ?_) ?_ rfl (fun j x kd hj hk => ?_) rfl _ (does_replace_same s t hs)
  · simp only [List.mem_cons, List.not_mem_nil, or_false] at hx
    rcases hx with rfl | rfl | rfl <;> (unfold GV.text I64; simp)
  · simp [text_ok]
  · match j with
    | 0 => cases hj; cases hk; exact badText8 _
    | 1 => cases hj; cases hk; exact badText8 _
    | 2 => cases hj; cases hk; exact badText8 _
    | j + 3 => simp at hj
end Go.Proofs.YtddnkjeogidfcaaDoor
