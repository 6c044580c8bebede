/-  scalar.Call at a function of the table, at arguments that it takes; at NULLs; coalesce and nullif. -/
import Derived.Test.YtddnkjeogidfcaaDoorJoin
namespace Go.Proofs.YtddnkjeogidfcaaDoor
open Go.RowKit Go.Shelf Go

theorem all_ok_k {l : List GV} (h : l.all GV.ok = true) {j : Nat} {x : GV} (hj : l[j]? = some x) : 0 ≤ x.k ∧ x.k ≤ 4 := by
  have hx : x ∈ l := List.mem_of_getElem? hj
  have := List.all_eq_true.1 h x hx
  unfold GV.ok at this
  simp only [Bool.or_eq_true, Bool.and_eq_true, beq_iff_eq] at this
  omega

theorem arity_of (name : ByteArray) (w : World) (lo hi : Int) (is : Bool) (h : arityS name.toList = (lo, hi, is)) :
    Calls Tryd.prog 20 #[.string name] w (Rets (.tuple #[.int .i64 lo, .int .i64 hi, .bool is]) w) := by
  have := scalar_Arity name w
  rw [h] at this
  exact this

theorem arityS_pos {name : List UInt8} {i : Nat} (h1 : (name == sCoalesce) = false) (h2 : (name == sNullif) = false) (hpos : posOf name = i) :
    arityS name = ((((kindsOf.getD i []).length : Nat) : Int), (((kindsOf.getD i []).length : Nat) : Int), true) := by
  unfold arityS
  rw [if_neg (by simpa using h1), if_neg (by simpa using h2), hpos, if_neg (by omega), Int.toNat_natCast]

theorem call_fn (name : ByteArray) (i : Nat) (h1 : (name.toList == sCoalesce) = false) (h2 : (name.toList == sNullif) = false) (hpos : posOf name.toList = i) (l : List GV) (v : Value) (w : World) (hv : VS w v l) (hmax : SomeMax w)
    (hi : ∀ x, x ∈ l → I64 x.i) (hok : l.all GV.ok = true) (hlen : l.length = (kindsOf.getD i []).length) (r : GV × Int)
    (hT : (∃ (j : Nat) (x : GV) (kd : Int), l[j]? = some x ∧ (kindsOf.getD i [])[j]? = some kd ∧ badArg x kd = true) → r = (GV.none, 20))
    (hN : (∀ (j : Nat) (x : GV) (kd : Int), l[j]? = some x → (kindsOf.getD i [])[j]? = some kd → badArg x kd = false) → (l.any fun x => x.k == 0) = true → r = (GV.none, 0))
    (hD : (∀ (j : Nat) (x : GV) (kd : Int), l[j]? = some x → (kindsOf.getD i [])[j]? = some kd → badArg x kd = false) → (l.any fun x => x.k == 0) = false → Does i l r) :
    Calls Tryd.prog 18 #[.string name, v] w (Rets (.tuple #[r.1.val, .int .i64 r.2]) w) :=
  Call_table name v l w hv _ _ true (fun W => arity_of name W _ _ _ (arityS_pos h1 h2 hpos)) (fun W hW => by have := scalar_check v l W hW hi; rwa [hok] at this) hmax (by omega) (.inr (by omega)) h1 h2 i hpos hlen
    (fun j x hj => all_ok_k hok hj) r hT hN hD

/-- Arguments of the right kinds, none of them NULL. -/
theorem call_good (name : ByteArray) (i : Nat) (h1 : (name.toList == sCoalesce) = false) (h2 : (name.toList == sNullif) = false) (hpos : posOf name.toList = i) (l : List GV) (v : Value) (w : World) (hv : VS w v l) (hmax : SomeMax w)
    (hi : ∀ x, x ∈ l → I64 x.i) (hok : l.all GV.ok = true) (hlen : l.length = (kindsOf.getD i []).length)
    (hg : ∀ (j : Nat) (x : GV) (kd : Int), l[j]? = some x → (kindsOf.getD i [])[j]? = some kd → badArg x kd = false) (hn : (l.any fun x => x.k == 0) = false) (r : GV × Int) (hD : Does i l r) :
    Calls Tryd.prog 18 #[.string name, v] w (Rets (.tuple #[r.1.val, .int .i64 r.2]) w) :=
  call_fn name i h1 h2 hpos l v w hv hmax hi hok hlen r (fun ⟨j, x, kd, hj, hk, hb⟩ => by rw [hg j x kd hj hk] at hb; cases hb) (fun _ h => by rw [hn] at h; cases h) (fun _ _ => hD)

theorem does_substr (x y z : GV) (hy : I64 y.i) (hz : I64 z.i) (hs : x.s.size ≤ 9223372036854775807) : Does 6 [x, y, z] (substrS x y.i z.i) := fun n W v _ _ hv =>
  ⟨_, _, rfl, enters_of Tryd.func54 (by kernel_rfl) rfl, do_substr x y z v W hv hy hz hs⟩
theorem does_instr (x y : GV) (hs : x.s.size < 4294967281) : Does 7 [x, y] (instrS x y) := fun n W v hm _ hv =>
  ⟨_, _, rfl, enters_of Tryd.func55 (by kernel_rfl) rfl, do_instr x y v W hv hs hm⟩
theorem does_length (x : GV) : Does 2 [x] (lengthS x) := fun n W v _ _ hv =>
  ⟨_, _, rfl, enters_of Tryd.func49 (by kernel_rfl) rfl, do_length x v W hv⟩
theorem does_sign (x : GV) : Does 1 [x] (signS x) := fun n W v _ _ hv =>
  ⟨_, _, rfl, enters_of Tryd.func47 (by kernel_rfl) rfl, do_sign x v W hv⟩
theorem does_abs (x : GV) (hx : I64 x.i) : Does 0 [x] (absS x) := fun n W v _ _ hv =>
  ⟨_, _, rfl, enters_of Tryd.func46 (by kernel_rfl) rfl, do_abs x v W hv hx⟩

theorem text_ok (s : ByteArray) : (GV.text s).ok = true := by unfold GV.ok GV.text; simp
theorem num_ok (n : Int) : (GV.num n).ok = true := by unfold GV.ok GV.num; rw [show (⟨#[]⟩ : ByteArray).toList = [] from by rw [Go.ByteArray.toList_eq]]; simp
theorem none_ok : GV.none.ok = true := by unfold GV.ok GV.none; rw [show (⟨#[]⟩ : ByteArray).toList = [] from by rw [Go.ByteArray.toList_eq]]; rfl
def badK (k kd : Int) : Bool := k != 0 && (bits BinOp.and IntKind.i64 (kd / 2 ^ k.toNat) 1 == 0)
theorem badArg_k (x : GV) (kd : Int) : badArg x kd = badK x.k kd := rfl
theorem k324 : badK 3 24 = false := by decide +kernel
theorem k38 : badK 3 8 = false := by decide +kernel
theorem k24 : badK 2 4 = false := by decide +kernel
theorem badText24 (s : ByteArray) : badArg (GV.text s) 24 = false := k324
theorem badText8 (s : ByteArray) : badArg (GV.text s) 8 = false := k38
theorem badNum4 (n : Int) : badArg (GV.num n) 4 = false := k24

def bSubstr : ByteArray := ⟨#[115, 117, 98, 115, 116, 114]⟩
def bInstr : ByteArray := ⟨#[105, 110, 115, 116, 114]⟩
def bLength : ByteArray := ⟨#[108, 101, 110, 103, 116, 104]⟩

theorem I64_num {n : Int} (h : I64 n) : ∀ x, x ∈ [GV.num n] → I64 x.i := fun x hx => by rw [List.mem_singleton] at hx; rw [hx]; exact h

theorem call_substr (s : ByteArray) (f n : Int) (v : Value) (w : World) (hv : VS w v [GV.text s, GV.num f, GV.num n]) (hmax : SomeMax w) (hf : I64 f) (hn : I64 n) (hs : s.size ≤ 9223372036854775807) :
    Calls Tryd.prog 18 #[.string bSubstr, v] w (Rets (.tuple #[(substrS (GV.text s) f n).1.val, .int .i64 (substrS (GV.text s) f n).2]) w) := by
  refine call_good bSubstr 6 (by rw [Go.ByteArray.toList_eq]; decide) (by rw [Go.ByteArray.toList_eq]; decide) (by rw [Go.ByteArray.toList_eq]; decide) [GV.text s, GV.num f, GV.num n] v w hv hmax (fun x hx => ?_) ?_ rfl (fun j x kd hj hk => ?_) rfl _ (does_substr _ _ _ hf hn hs)
  · simp only [List.mem_cons, List.not_mem_nil, or_false] at hx
    rcases hx with rfl | rfl | rfl
    · unfold GV.text I64; simp
    · exact hf
    · exact hn
  · simp [text_ok, num_ok]
  · match j with
    | 0 => cases hj; cases hk; exact badText24 _
    | 1 => cases hj; cases hk; exact badNum4 _
    | 2 => cases hj; cases hk; exact badNum4 _
    | j + 3 => simp at hj

theorem call_instr (s t : ByteArray) (v : Value) (w : World) (hv : VS w v [GV.text s, GV.text t]) (hmax : SomeMax w) (hs : s.size < 4294967281) :
    Calls Tryd.prog 18 #[.string bInstr, v] w (Rets (.tuple #[(instrS (GV.text s) (GV.text t)).1.val, .int .i64 (instrS (GV.text s) (GV.text t)).2]) w) := by
  refine call_good bInstr 7 (by rw [Go.ByteArray.toList_eq]; decide) (by rw [Go.ByteArray.toList_eq]; decide) (by rw [Go.ByteArray.toList_eq]; decide) [GV.text s, GV.text t] v w hv hmax (fun x hx => ?_) ?_ rfl (fun j x kd hj hk => ?_) rfl _ (does_instr _ _ hs)
  · simp only [List.mem_cons, List.not_mem_nil, or_false] at hx
    rcases hx with rfl | rfl <;> (unfold GV.text I64; simp)
  · simp [text_ok, num_ok]
  · match j with
    | 0 => cases hj; cases hk; exact badText8 _
    | 1 => cases hj; cases hk; exact badText8 _
    | j + 2 => simp at hj

theorem call_length (s : ByteArray) (v : Value) (w : World) (hv : VS w v [GV.text s]) (hmax : SomeMax w) :
    Calls Tryd.prog 18 #[.string bLength, v] w (Rets (.tuple #[(lengthS (GV.text s)).1.val, .int .i64 (lengthS (GV.text s)).2]) w) := by
  refine call_good bLength 2 (by rw [Go.ByteArray.toList_eq]; decide) (by rw [Go.ByteArray.toList_eq]; decide) (by rw [Go.ByteArray.toList_eq]; decide) [GV.text s] v w hv hmax (fun x hx => ?_) ?_ rfl (fun j x kd hj hk => ?_) rfl _ (does_length _)
  · simp only [List.mem_cons, List.not_mem_nil, or_false] at hx
    subst hx; unfold GV.text I64; simp
  · simp [text_ok, num_ok]
  · match j with
    | 0 => cases hj; cases hk; exact badText24 _
    | j + 1 => simp at hj
end Go.Proofs.YtddnkjeogidfcaaDoor
