/-  The seat's program under the evaluator: its types' tables hold; small laws for the formulas. -/
import Derived.Test.YtimjepimjfcalaaGreatDoorEvTwo
import Derived.Test.YtimjepimjfcalaaGreatDoorTy
import Derived.Test.YtimjepimjfcalaaGreatDoorProg
import Derived.KernelRfl
set_option linter.all false
open Go Go.Proofs
namespace Go.Ev
theorem mixed16 : Tryz.prog.follows .mixedOrders = true := by rfl
theorem TT [Globs] : TabOK Tryz.prog EE := envOf_ok mixed16
instance seatGlobs : Globs := ⟨fun _ => none⟩

theorem map_if {α β : Type} {p : Prop} [Decidable p] (f : α → β) (x : Option α) : Option.map f (if p then x else none) = if p then Option.map f x else none := by split <;> rfl
theorem map_ifn {α β : Type} {p : Prop} [Decidable p] (f : α → β) (x : Option α) : Option.map f (if p then none else x) = if p then none else Option.map f x := by split <;> rfl
attribute [go_sem] map_if map_ifn
theorem wrap_id {a : Int} (h1 : -9223372036854775808 ≤ a) (h2 : a ≤ 9223372036854775807) : IntKind.wrap .i64 a = a := by
  simp [IntKind.wrap, IntKind.signed, IntKind.bits]
  split <;> omega
theorem minMax_two (k : IntKind) (mx : Bool) (a b : Int) : minMax mx [.c (.int k a), .c (.int k b)] = some (.c (.int k (if mx then (if b > a then b else a) else (if b < a then b else a)))) := by
  rw [minMax, if_pos rfl, minMax]
theorem max_two (k : IntKind) (a b : Int) : minMax true [.c (.int k a), .c (.int k b)] = some (.c (.int k (max a b))) := by
  rw [minMax_two, if_pos rfl, show (if b > a then b else a) = max a b by split <;> omega]
theorem min_two (k : IntKind) (a b : Int) : minMax false [.c (.int k a), .c (.int k b)] = some (.c (.int k (min a b))) := by
  rw [minMax_two, if_neg (by simp), show (if b < a then b else a) = min a b by split <;> omega]
attribute [go_sem] max_two min_two gc scrub scrubB List.append_nil false_or true_or or_false or_true and_true true_and not_true_eq_false not_false_eq_true false_and and_false

/-- A loop: a is what turns from round to round, S the state at its head, where but the first p slots and the first q blocks stay. -/
theorem Lp.inv {G : Ctx} {K : List Fr} {s : St} {c : Code} (T : TabOK G.P G.E) (k : Nat) (p q : Nat) (hq : G.n ≤ q) {α : Type} (μ : α → Nat) (I : α → Prop) (S : α → St) (a0 : α) (hs : Ev.gc p q s = S a0) (h0 : I a0)
    (round : ∀ a, I a → vm G k (.code c) (.lp (fun s' => ∃ a', μ a' < μ a ∧ I a' ∧ Ev.gc p q s' = S a') :: K) (S a)) : Lp G c K s :=
  Lp.gc T k p q hq (fun m s => ∃ a, m = μ a ∧ I a ∧ s = S a) (μ a0) ⟨a0, rfl, h0, hs⟩ fun m s1 ⟨a, hm, ha, he⟩ => by
    subst hm he
    have e : (fun s' => ∃ a', μ a' < μ a ∧ I a' ∧ Ev.gc p q s' = S a') = (fun s' => ∃ j, j < μ a ∧ ∃ a, j = μ a ∧ I a ∧ Ev.gc p q s' = S a) := funext fun s' => propext
      ⟨fun ⟨a', h1, h2, h3⟩ => ⟨_, h1, a', rfl, h2, h3⟩, fun ⟨j, h1, a', h2, h3, h4⟩ => ⟨a', by omega, h3, h4⟩⟩
    have := round a ha
    rw [e] at this
    exact this
end Go.Ev
