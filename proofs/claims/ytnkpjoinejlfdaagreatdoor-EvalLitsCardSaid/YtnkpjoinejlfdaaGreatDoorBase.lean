/-  The seat's program under the evaluator: its types' tables hold; small laws for the formulas. -/
import Derived.Test.YtnkpjoinejlfdaaGreatDoorEvTwo
import Derived.Test.YtnkpjoinejlfdaaGreatDoorTy
import Derived.Test.YtnkpjoinejlfdaaGreatDoorProg
import Derived.KernelRfl
set_option linter.all false
open Go Go.Proofs
namespace Go.Ev
theorem mixed16 : Tryz.prog.follows .mixedOrders = true := by rfl
theorem TT [Globs] : TabOK Tryz.prog EE := envOf_ok mixed16
theorem EE_cls : EE.cls = false := rfl
theorem closeRow_false (op : Op) (nw : Nat) (p : AV × List (Nat × ABlk)) : closeRow false op nw p = p := rfl
attribute [go_sem] EE_cls closeRow_false
def asciiSpaceC : List CV := [.int .u8 0, .int .u8 0, .int .u8 0, .int .u8 0, .int .u8 0, .int .u8 0, .int .u8 0, .int .u8 0, .int .u8 0, .int .u8 1, .int .u8 1, .int .u8 1, .int .u8 1, .int .u8 1, .int .u8 0, .int .u8 0, .int .u8 0, .int .u8 0, .int .u8 0, .int .u8 0, .int .u8 0, .int .u8 0, .int .u8 0, .int .u8 0, .int .u8 0, .int .u8 0, .int .u8 0, .int .u8 0, .int .u8 0, .int .u8 0, .int .u8 0, .int .u8 0, .int .u8 1, .int .u8 0, .int .u8 0, .int .u8 0, .int .u8 0, .int .u8 0, .int .u8 0, .int .u8 0, .int .u8 0, .int .u8 0, .int .u8 0, .int .u8 0, .int .u8 0, .int .u8 0, .int .u8 0, .int .u8 0, .int .u8 0, .int .u8 0, .int .u8 0, .int .u8 0, .int .u8 0, .int .u8 0, .int .u8 0, .int .u8 0, .int .u8 0, .int .u8 0, .int .u8 0, .int .u8 0, .int .u8 0, .int .u8 0, .int .u8 0, .int .u8 0, .int .u8 0, .int .u8 0, .int .u8 0, .int .u8 0, .int .u8 0, .int .u8 0, .int .u8 0, .int .u8 0, .int .u8 0, .int .u8 0, .int .u8 0, .int .u8 0, .int .u8 0, .int .u8 0, .int .u8 0, .int .u8 0, .int .u8 0, .int .u8 0, .int .u8 0, .int .u8 0, .int .u8 0, .int .u8 0, .int .u8 0, .int .u8 0, .int .u8 0, .int .u8 0, .int .u8 0, .int .u8 0, .int .u8 0, .int .u8 0, .int .u8 0, .int .u8 0, .int .u8 0, .int .u8 0, .int .u8 0, .int .u8 0, .int .u8 0, .int .u8 0, .int .u8 0, .int .u8 0, .int .u8 0, .int .u8 0, .int .u8 0, .int .u8 0, .int .u8 0, .int .u8 0, .int .u8 0, .int .u8 0, .int .u8 0, .int .u8 0, .int .u8 0, .int .u8 0, .int .u8 0, .int .u8 0, .int .u8 0, .int .u8 0, .int .u8 0, .int .u8 0, .int .u8 0, .int .u8 0, .int .u8 0, .int .u8 0, .int .u8 0, .int .u8 0, .int .u8 0, .int .u8 0, .int .u8 0, .int .u8 0, .int .u8 0, .int .u8 0, .int .u8 0, .int .u8 0, .int .u8 0, .int .u8 0, .int .u8 0, .int .u8 0, .int .u8 0, .int .u8 0, .int .u8 0, .int .u8 0, .int .u8 0, .int .u8 0, .int .u8 0, .int .u8 0, .int .u8 0, .int .u8 0, .int .u8 0, .int .u8 0, .int .u8 0, .int .u8 0, .int .u8 0, .int .u8 0, .int .u8 0, .int .u8 0, .int .u8 0, .int .u8 0, .int .u8 0, .int .u8 0, .int .u8 0, .int .u8 0, .int .u8 0, .int .u8 0, .int .u8 0, .int .u8 0, .int .u8 0, .int .u8 0, .int .u8 0, .int .u8 0, .int .u8 0, .int .u8 0, .int .u8 0, .int .u8 0, .int .u8 0, .int .u8 0, .int .u8 0, .int .u8 0, .int .u8 0, .int .u8 0, .int .u8 0, .int .u8 0, .int .u8 0, .int .u8 0, .int .u8 0, .int .u8 0, .int .u8 0, .int .u8 0, .int .u8 0, .int .u8 0, .int .u8 0, .int .u8 0, .int .u8 0, .int .u8 0, .int .u8 0, .int .u8 0, .int .u8 0, .int .u8 0, .int .u8 0, .int .u8 0, .int .u8 0, .int .u8 0, .int .u8 0, .int .u8 0, .int .u8 0, .int .u8 0, .int .u8 0, .int .u8 0, .int .u8 0, .int .u8 0, .int .u8 0, .int .u8 0, .int .u8 0, .int .u8 0, .int .u8 0, .int .u8 0, .int .u8 0, .int .u8 0, .int .u8 0, .int .u8 0, .int .u8 0, .int .u8 0, .int .u8 0, .int .u8 0, .int .u8 0, .int .u8 0, .int .u8 0, .int .u8 0, .int .u8 0, .int .u8 0, .int .u8 0, .int .u8 0, .int .u8 0, .int .u8 0, .int .u8 0, .int .u8 0, .int .u8 0, .int .u8 0, .int .u8 0, .int .u8 0, .int .u8 0, .int .u8 0, .int .u8 0, .int .u8 0, .int .u8 0, .int .u8 0, .int .u8 0, .int .u8 0, .int .u8 0, .int .u8 0, .int .u8 0, .int .u8 0, .int .u8 0, .int .u8 0]
instance seatGlobs : Globs := ⟨fun g => match g with
  | 1 => some asciiSpaceC
  | _ => none⟩

theorem map_if {α β : Type} {p : Prop} [Decidable p] (f : α → β) (x : Option α) : Option.map f (if p then x else none) = if p then Option.map f x else none := by split <;> rfl
theorem map_ifn {α β : Type} {p : Prop} [Decidable p] (f : α → β) (x : Option α) : Option.map f (if p then none else x) = if p then none else Option.map f x := by split <;> rfl
attribute [go_sem] map_if map_ifn
theorem wrap_id {a : Int} (h1 : -9223372036854775808 ≤ a) (h2 : a ≤ 9223372036854775807) : IntKind.wrap .i64 a = a := by
  simp [IntKind.wrap, IntKind.signed, IntKind.bits]
  split <;> omega
theorem minMax_two (k : IntKind) (mx : Bool) (a b : Int) : minMax mx [.c (.int k a), .c (.int k b)] = some (.c (.int k (if mx then (if b > a then b else a) else (if b < a then b else a)))) := by
  rw [minMax, if_pos rfl, minMax]
theorem max_two (k : IntKind) (a b : Int) : minMax true [.c (.int k a), .c (.int k b)] = some (.c (.int k (max a b))) := by
  rw [minMax_two, if_pos rfl, show (if b > a then b else a) = max a b by split <;> omega]
theorem min_two (k : IntKind) (a b : Int) : minMax false [.c (.int k a), .c (.int k b)] = some (.c (.int k (min a b))) := by
  rw [minMax_two, if_neg (by simp), show (if b < a then b else a) = min a b by split <;> omega]
attribute [go_sem] max_two min_two gc scrub scrubB List.append_nil false_or true_or or_false or_true and_true true_and not_true_eq_false not_false_eq_true false_and and_false

/-- A loop: a is what turns from round to round, S the state at its head, where but the first p slots and the first q blocks stay. -/
theorem Lp.inv {G : Ctx} {K : List Fr} {s : St} {c : Code} (T : TabOK G.P G.E) (k : Nat) (p q : Nat) (hq : G.n ≤ q) {α : Type} (μ : α → Nat) (I : α → Prop) (S : α → St) (a0 : α) (hs : Ev.gc p q s = S a0) (h0 : I a0)
    (round : ∀ a, I a → vm G k (.code c) (.lp (fun s' => ∃ a', μ a' < μ a ∧ I a' ∧ Ev.gc p q s' = S a') :: K) (S a)) : Lp G c K s :=
  Lp.gc T k p q hq (fun m s => ∃ a, m = μ a ∧ I a ∧ s = S a) (μ a0) ⟨a0, rfl, h0, hs⟩ fun m s1 ⟨a, hm, ha, he⟩ => by
    subst hm he
    have e : (fun s' => ∃ a', μ a' < μ a ∧ I a' ∧ Ev.gc p q s' = S a') = (fun s' => ∃ j, j < μ a ∧ ∃ a, j = μ a ∧ I a ∧ Ev.gc p q s' = S a) := funext fun s' => propext
      ⟨fun ⟨a', h1, h2, h3⟩ => ⟨_, h1, a', rfl, h2, h3⟩, fun ⟨j, h1, a', h2, h3, h4⟩ => ⟨a', by omega, h3, h4⟩⟩
    have := round a ha
    rw [e] at this
    exact this
theorem nat0 : ((0 : Nat) : Int) = 0 := rfl
theorem wrap_succ {j : Nat} (h : j < 9223372036854775807) : IntKind.wrap .i64 ((j : Int) + 1) = ((j + 1 : Nat) : Int) := wrap_id (by omega) (by omega)
/-- A list among the arguments is no longer than numbers go. -/
theorem Good.bound {P : Program} {f : FuncId} {args : List AV} {h h' : List ABlk} {r : AV} {sz : Nat} {x : Bool} {xs : List (List CV)} (hm : AV.c (.lst sz x xs) ∈ args) (G : xs.length ≤ 9223372036854775807 → Good P f args h r h') : Good P f args h r h' := fun w N ρ vs H hs hl hr => by
  obtain ⟨i, hi, he⟩ := List.getElem_of_mem hm
  have := hr i hi (by omega)
  rw [he] at this
  generalize vs[i] = y at this
  refine G ?_ w N ρ vs H hs hl hr
  cases this with
  | c h => cases h with
    | lst _ _ _ A c V hx hc hm => omega
theorem getS {α : Type} {l : List α} {j : Nat} (h : j < l.length) : ∃ x, l[j]? = some x ∧ x ∈ l ∧ l.take (j + 1) = l.take j ++ [x] ∧ l.drop j = x :: l.drop (j + 1) :=
  ⟨l[j], List.getElem?_eq_getElem h, List.getElem_mem h, (List.take_append_getElem h).symm, (List.getElem_cons_drop h).symm⟩
theorem nat_nonneg (n : Nat) : (0 ≤ (n : Int)) = True := propext ⟨fun _ => trivial, fun _ => Int.natCast_nonneg n⟩
attribute [go_sem] List.filterMap_cons List.filterMap_nil idOf List.contains_cons List.contains_nil pick_next ne_eq nat_nonneg nat0 Int.toNat_natCast List.getElem?_map List.length_map Int.ofNat_lt Int.ofNat_le
/-- Two constant texts compared. -/
def bsq : List UInt8 → List UInt8 → Bool
  | [], [] => true
  | a :: l, b :: m => (a.toNat == b.toNat) && bsq l m
  | _, _ => false
theorem bsq_eq : ∀ a b : List UInt8, (a == b) = bsq a b
  | [], [] => rfl
  | [], _ :: _ => rfl
  | _ :: _, [] => rfl
  | a :: l, b :: m => by
    have : (a.toNat == b.toNat) = (a == b) := by rw [Bool.eq_iff_iff, beq_iff_eq, beq_iff_eq]; exact UInt8.toNat_inj
    rw [bsq, ← bsq_eq l m, this]; rfl
theorem bs_eq (a b : List UInt8) : ((ByteArray.mk a.toArray).toList == (ByteArray.mk b.toArray).toList) = bsq a b := by
  rw [Go.ByteArray.toList_eq, Go.ByteArray.toList_eq, ← bsq_eq]
theorem snapAll_opn (h : List ABlk) : ∀ cs : List CV, snapAll h (cs.map opn) = some (cs.map opn)
  | [] => rfl
  | c :: cs => by
    have : snap h (opn c) = some (opn c) := by cases c <;> rfl
    simp only [List.map_cons, snapAll, this, snapAll_opn h cs]
theorem allIds_opn : ∀ cs : List CV, allIds.all (cs.map opn) = []
  | [] => rfl
  | c :: cs => by
    have : allIds (opn c) = [] := by cases c <;> rfl
    simp only [List.map_cons, allIds.all, this, allIds_opn cs, List.append_nil]
theorem notSl_opn : ∀ cs : List CV, (cs.map opn).all notSl = true
  | [] => rfl
  | c :: cs => by
    have : notSl (opn c) = true := by cases c <;> rfl
    simp only [List.map_cons, List.all_cons, this, notSl_opn cs, Bool.and_self]
attribute [go_sem] bsq bs_eq snapAll_opn allIds_opn notSl_opn
/-- The same, the order of the text looked at first. -/
def memOK2 (a : Array Oper) (rs : List Rec) : Bool := let T := ancT a a.size; allPairs (fun i j => (T.getD j 0).testBit i || memFree (recAt rs i) (recAt rs j)) a.size
theorem memOK_of2 {a : Array Oper} {rs : List Rec} (h : memOK2 a rs = true) : memOK a rs = true := by
  unfold memOK
  unfold memOK2 at h
  simp only [Bool.or_comm] at h ⊢
  simp only [Bool.or_eq_true]
  exact .inl h
/-! # loops: what turns from round to round, the rest as it was -/
def maskT : List Bool → List AV → List AV
  | true :: m, _ :: t => .dead :: maskT m t
  | false :: m, x :: t => x :: maskT m t
  | [], t => t
  | _ :: _, [] => []
def setAll : List (Nat × AV) → List AV → List AV
  | [], t => t
  | p :: V, t => setAll V (t.set p.1 p.2)
def putH : List (Nat × ABlk) → List ABlk → List ABlk
  | [], h => h
  | p :: B, h => putH B (h.set p.1 p.2)
def stAt (q : Nat) (m : List Bool) (t : List AV) (h : List ABlk) (V : List (Nat × AV)) (B : List (Nat × ABlk)) : St := ⟨setAll V (maskT m t), putH B (h.take q)⟩
/-- A loop: a is what turns from round to round; V, B: the slots and blocks that turn; m: the slots that are of no use at its head. -/
theorem Lp.at [Globs] {G : Ctx} {K : List Fr} {t : List AV} {h : List ABlk} {c : Code} (T : TabOK G.P G.E) (k : Nat) (q : Nat) (hq : G.n ≤ q) (m : List Bool) {α : Type} (μ : α → Nat) (I : α → Prop) (V : α → List (Nat × AV)) (B : α → List (Nat × ABlk)) (a0 : α) (h0 : I a0) (hs : FitS q ⟨t, h⟩ (stAt q m t h (V a0) (B a0)))
    (round : ∀ a, I a → vm G k (.code c) (.lp (fun s' => ∃ a', μ a' < μ a ∧ I a' ∧ FitS q s' (stAt q m t h (V a') (B a'))) :: K) (stAt q m t h (V a) (B a))) : Lp G c K ⟨t, h⟩ :=
  Lp.fit T k q hq μ I (fun a => stAt q m t h (V a) (B a)) a0 h0 hs round
theorem maskT_true {m : List Bool} {x : AV} {t : List AV} : maskT (true :: m) (x :: t) = .dead :: maskT m t := by rw [maskT]
theorem maskT_false {m : List Bool} {x : AV} {t : List AV} : maskT (false :: m) (x :: t) = x :: maskT m t := by rw [maskT]
theorem maskT_nil {t : List AV} : maskT [] t = t := by cases t <;> rw [maskT]
theorem setAll_nil {t : List AV} : setAll [] t = t := by rw [setAll]
theorem setAll_cons {p : Nat × AV} {V : List (Nat × AV)} {t : List AV} : setAll (p :: V) t = setAll V (t.set p.1 p.2) := by rw [setAll]
theorem putH_nil {t : List ABlk} : putH [] t = t := by rw [putH]
theorem putH_cons {p : Nat × ABlk} {V : List (Nat × ABlk)} {t : List ABlk} : putH (p :: V) t = putH V (t.set p.1 p.2) := by rw [putH]
theorem stAt_eq {q : Nat} {m : List Bool} {t : List AV} {h : List ABlk} {V : List (Nat × AV)} {B : List (Nat × ABlk)} : stAt q m t h V B = ⟨setAll V (maskT m t), putH B (h.take q)⟩ := by rw [stAt]
attribute [go_sem] maskT_true maskT_false maskT_nil setAll_nil setAll_cons putH_nil putH_cons stAt_eq
/-- A function's end where own blocks are left: those of js. -/
def EndA (o : Option AV) (n : Nat) (js : List Nat) (h : List ABlk) (r : AV) (h' : List ABlk) : Prop := ∃ v, o = some v ∧ packOK n js h.length = true ∧ n ≤ h.length ∧ Le (ren (posOf n js) v) r ∧ r.sc (born h') = true ∧ packH n js h = h'
def EndB (n : Nat) (js : List Nat) (h : List ABlk) (v r : AV) (h' : List ABlk) : Prop := packOK n js h.length = true ∧ n ≤ h.length ∧ Le (ren (posOf n js) v) r ∧ r.sc (born h') = true ∧ packH n js h = h'
theorem EndA_some {v : AV} {n : Nat} {js : List Nat} {h : List ABlk} {r : AV} {h' : List ABlk} : EndA (some v) n js h r h' = EndB n js h v r h' := propext ⟨fun ⟨_, h1, h2⟩ => by cases h1; exact h2, fun h => ⟨_, rfl, h⟩⟩
def endA (E : Env) (rs : List ResultVar) (n : Nat) (js : List Nat) (r : AV) (h' : List ABlk) (e : Exit) (s : St) : Prop :=
  (e = .normal ∨ e = .ret) ∧ EndA (resA E rs s) n js s.h r h'
theorem Good.of_vmA [Globs] {P : Program} {E : Env} (T : TabOK P E) (k : Nat) (js : List Nat) {f : FuncId} {fn : Func} {c : Code} {args : List AV} {h h' : List ABlk} {r : AV} (hf : P.funcs[f]? = some fn) (hb : fn.body = some c) (hn : (fn.name == "runtime.NumGoroutine") = false)
    (hv : vm ⟨P, E, h.length, endA E fn.results.toList h.length js r h'⟩ k (.code c) [] ⟨args ++ List.replicate (fn.ntmps - args.length) .und, h⟩) : Good P f args h r h' := by
  refine Good.of_run2 T (fun v k => packOK h.length js k.length = true ∧ h.length ≤ k.length ∧ Le (ren (posOf h.length js) v) r ∧ r.sc (born h') = true ∧ packH h.length js k = h') hf hb hn ?_ ((vm_run T k hv).turn fun e s1 X a w hX hq hs => ?_)
  · rintro X a w v k hX ⟨h1, h2, h3, h4, rfl⟩ hs
    have h5 := hs.pack 1 h.length js (by rw [hX]; exact Nat.le_refl _) h2 h1
    simp only [Ev.pack, List.take_succ_cons, List.take_zero, ren.all, List.length_singleton, Nat.sub_self, List.replicate_zero, List.append_nil] at h5
    obtain ⟨N, ρ, S⟩ := h5
    refine ⟨N, ρ, S.heap, ⟨S.slots.len, fun i u hu => ?_, S.slots.glob⟩, ?_, S.kept, S.defers⟩
    · match i, hu with
      | 0, hu =>
        obtain ⟨x, hx, hr⟩ := S.slots.rep 0 _ rfl
        simp at hu; subst hu
        exact ⟨x, hx, h3.rep _ _ _ _ hr⟩
      | i + 1, hu => simp at hu
    · simp only [AV.sc.scAll, Bool.and_true]; exact h4
  · obtain ⟨he, v, hv, h1⟩ := hq
    exact ⟨_, hs, he, v, hv, h1⟩
attribute [go_sem] endA EndA_some EndB
end Go.Ev
