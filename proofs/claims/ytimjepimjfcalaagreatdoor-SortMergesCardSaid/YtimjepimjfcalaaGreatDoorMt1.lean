import Derived.Test.YtimjepimjfcalaaGreatDoorMs9
import Derived.Test.YtimjepimjfcalaaGreatDoorMs8
import Derived.Test.YtimjepimjfcalaaGreatDoorMs7
import Derived.Test.YtimjepimjfcalaaGreatDoorMe6
import Derived.Test.YtimjepimjfcalaaGreatDoorMr3
set_option linter.all false
set_option maxRecDepth 100000
set_option maxHeartbeats 8000000
section
open Go Go.Proofs Go.RowKit
namespace Go.Ev
abbrev pairG (g : List Val → List Val) (r : List Val) : Keyed := (r, g r)
abbrev prs (g : List Val → List Val) (l : List (List Val)) : List Keyed := l.map fun r => (r, g r)
theorem sort_pairs (ks : List Key) (g : List Val → List Val) (p : List (List Val)) : prs g (fsts (sortF ks (prs g p))) = sortF ks (prs g p) := by
 unfold prs fsts
 rw [List.map_map]
 conv => rhs; rw [← List.map_id (sortF ks (p.map fun r => (r, g r)))]
 refine List.map_congr_left fun q hq => ?_
 rw [sortF_mem] at hq
 obtain ⟨r, _, rfl⟩ := List.mem_map.1 hq
 rfl
theorem flat_prs (g : List Val → List Val) (L : List (List (List Val))) : (L.map (prs g)).flatten = prs g L.flatten := by
 unfold prs
 rw [List.map_flatten]
theorem merges_eq (ks : List Key) (g : List Val → List Val) (hg : ∀ r, (g r).length = ks.length) (P : List (List (List Val))) :
  mergeF ks (tot ((P.map fun p => fsts (sortF ks (prs g p))).map (prs g))) ((P.map fun p => fsts (sortF ks (prs g p))).map (prs g)) = sortF ks (prs g (P.map fun p => fsts (sortF ks (prs g p))).flatten) := by
 rw [← flat_prs]
 refine merge_sort ks _ (isOrd ks) _ _ rfl (fun h hh q hq => ?_) (fun h hh => ?_)
 ·obtain ⟨r, _, rfl⟩ := List.mem_map.1 hh
  obtain ⟨x, _, rfl⟩ := List.mem_map.1 hq
  exact hg x
 ·obtain ⟨r, hr, rfl⟩ := List.mem_map.1 hh
  obtain ⟨p, _, rfl⟩ := List.mem_map.1 hr
  rw [sort_pairs]
  exact sortF_srt ks _ (isOrd ks) _ fun q hq => by
   obtain ⟨x, _, rfl⟩ := List.mem_map.1 hq
   exact hg x
theorem seven (n : Int) : ∃ m : Nat, 1 ≤ m ∧ m ≤ 7 ∧ IntKind.wrap .i64 (1 + Int.tmod (IntKind.wrap .i64 (Int.tmod n 7 + 7)) 7) = m := by
 have h1 : -6 ≤ Int.tmod n 7 ∧ Int.tmod n 7 ≤ 6 := by
  have a := Int.tmod_lt_of_pos n (b := 7) (by omega)
  have b := Int.lt_tmod_of_pos n (b := 7) (by omega)
  omega
 rw [wrap_id (a := Int.tmod n 7 + 7) (by omega) (by omega)]
 have h2 : 0 ≤ Int.tmod (Int.tmod n 7 + 7) 7 := Int.tmod_nonneg _ (by omega)
 have h3 : Int.tmod (Int.tmod n 7 + 7) 7 < 7 := Int.tmod_lt_of_pos _ (by omega)
 rw [wrap_id (by omega) (by omega)]
 exact ⟨(1 + Int.tmod (Int.tmod n 7 + 7) 7).toNat, by omega, by omega, by omega⟩
theorem law_no (l : List (List Val)) (ks : List Key) (n : Int) (hlive : Good Tryz.prog 8 [] [] (cB true) [])
  (heven : Good Tryz.prog 9 [.c (rowsC l), .c (keysC ks)] [] (.tup [.c (rowsC []), cB false]) []) :
  Good Tryz.prog 7 [.c (rowsC l), .c (keysC ks), cI n] [] (cB true) [] := by
 refine Good.of_vmQ TT 4000 Tryz.func7 rfl rfl ?_
 unfold Tryz.f7
 simp only [go_sem, go_sem_proc]
 refine Cl.pure TT 4000 hlive rfl rfl ?_
 simp only [go_sem, go_sem_proc]
 refine Cl.pure TT 4000 heven rfl rfl ?_
 simp only [go_sem, go_sem_proc]
 first | done | exact Le.refl _
theorem law_cut (l x : List (List Val)) (ks : List Key) (n : Int) (hlive : Good Tryz.prog 8 [] [] (cB true) [])
  (heven : Good Tryz.prog 9 [.c (rowsC l), .c (keysC ks)] [] (.tup [.c (rowsC x), cB true]) [])
  (hcut : ∀ m : Nat, 1 ≤ m → m ≤ 7 → Good Tryz.prog 18 [.c (rowsC x), .c (keysC ks), cI m] [] (.tup [.c (.lst 1 false []), cB false]) []) :
  Good Tryz.prog 7 [.c (rowsC l), .c (keysC ks), cI n] [] (cB true) [] := by
 obtain ⟨m, m1, m2, hm⟩ := seven n
 have hc := hcut m m1 m2
 refine Good.of_vmQ TT 4000 Tryz.func7 rfl rfl ?_
 unfold Tryz.f7
 simp only [go_sem, go_sem_proc]
 refine Cl.pure TT 4000 hlive rfl rfl ?_
 simp only [go_sem, go_sem_proc]
 refine Cl.pure TT 4000 heven rfl rfl ?_
 simp only [go_sem, hm, go_sem_proc]
 refine Cl.pure TT 4000 hc rfl rfl ?_
 simp only [go_sem, go_sem_proc]
 first | done | exact Le.refl _
theorem law_ok (l x : List (List Val)) (ks : List Key) (n : Int) (hlive : Good Tryz.prog 8 [] [] (cB true) [])
  (heven : Good Tryz.prog 9 [.c (rowsC l), .c (keysC ks)] [] (.tup [.c (rowsC x), cB true]) [])
  (L : Nat → List (List (List Val))) (Z : Nat → List (List Val)) (hZ : ∀ m, (Z m).length ≤ 100000)
  (hcut : ∀ m : Nat, 1 ≤ m → m ≤ 7 → Good Tryz.prog 18 [.c (rowsC x), .c (keysC ks), cI m] [] (.tup [.c (.lst 1 false ((L m).map rscell)), cB true]) [])
  (hmer : ∀ m : Nat, 1 ≤ m → m ≤ 7 → Good Tryz.prog 19 [.c (keysC ks), .c (.lst 1 false ((L m).map fun l => [rowsC l]))] [] (.tup [.c (rowsC (Z m)), cI 0]) [])
  (href : ∀ m : Nat, 1 ≤ m → m ≤ 7 → Good Tryz.prog 20 [.c (keysC ks), .c (.lst 1 false ((L m).map fun l => [rowsC l]))] [] (.tup [.c (rowsC (Z m)), cI 0]) []) :
  Good Tryz.prog 7 [.c (rowsC l), .c (keysC ks), cI n] [] (cB true) [] := by
 obtain ⟨m, m1, m2, hm⟩ := seven n
 have hc := hcut m m1 m2
 have h1 := hmer m m1 m2
 have h2 := href m m1 m2
 have h3 := sameRows_self (Z m) (hZ m)
 generalize L m = A at *
 generalize Z m = B at *
 refine Good.of_vmQ TT 4000 Tryz.func7 rfl rfl ?_
 unfold Tryz.f7
 simp only [go_sem, go_sem_proc]
 refine Cl.pure TT 4000 hlive rfl rfl ?_
 simp only [go_sem, go_sem_proc]
 refine Cl.pure TT 4000 heven rfl rfl ?_
 simp only [go_sem, hm, go_sem_proc]
 refine Cl.pure TT 4000 hc rfl rfl ?_
 simp only [go_sem, go_sem_proc]
 refine Cl.pure TT 4000 h1 rfl rfl ?_
 simp only [go_sem, go_sem_proc]
 refine Cl.pure TT 4000 h2 rfl rfl ?_
 simp only [go_sem, go_sem_proc]
 refine Cl.pure TT 4000 h3 rfl rfl ?_
 simp only [go_sem, go_sem_proc]
 first | done | exact Le.refl _
theorem sortMerges_ok (l x : List (List Val)) (ks : List Key) (n : Int) (g : List Val → List Val) (hx : x.length ≤ 1000) (hk : ks.length ≤ 1000) (hg : ∀ r, (g r).length = ks.length)
  (hlive : Good Tryz.prog 8 [] [] (cB true) [])
  (heven : Good Tryz.prog 9 [.c (rowsC l), .c (keysC ks)] [] (.tup [.c (rowsC x), cB true]) [])
  (hE : ∀ (r : List Val) (i : Nat) (k : Key) (v : Val), r ∈ x → ks[i]? = some k → (g r)[i]? = some v → EvalR r k.e v 0)
  (hP : ∀ p : List (List Val), (∀ r, r ∈ p → r ∈ x) → p.length ≤ 10000 → Good Tryz.prog 38 [.c (rowsC p), .c (.lst 7 false ((ks.map Key.e).map Expr.cs))] [] (.tup [.c (rowsC (p.map g)), cI 0]) []) :
  Good Tryz.prog 7 [.c (rowsC l), .c (keysC ks), cI n] [] (cB true) [] := by
 have hsort : ∀ p : List (List Val), (∀ r, r ∈ p → r ∈ x) → p.length ≤ 10000 → Good Tryz.prog 16 [.c (rowsC p), .c (keysC ks)] [] (.tup [.c (rowsC (fsts (sortF ks (prs g p)))), cI 0]) [] := fun p h hl => r11_Sort_ok ks p hl hk g hg (hP p h hl)
 have hsub : ∀ (m : Nat) (k : Nat) (y : List (List Val)) p, p ∈ cutF m k y → ∀ r, r ∈ p → r ∈ y := by
  intro m k
  induction k with
  | zero => intro y p hp; simp [cutF] at hp
  | succ k ih =>
   intro y p hp r hr
   rw [cutF] at hp
   split at hp
   ·simp at hp
   ·rcases List.mem_cons.1 hp with h | h
    ·subst h; exact List.mem_of_mem_take hr
    ·exact List.mem_of_mem_drop (ih _ p h r hr)
 have hflat : ∀ (m : Nat), 1 ≤ m → ∀ (k : Nat) (y : List (List Val)), y.length ≤ k → (cutF m k y).flatten = y := by
  intro m hm k
  induction k with
  | zero => intro y h; rw [List.eq_nil_of_length_eq_zero (by omega : y.length = 0)]; rfl
  | succ k ih =>
   intro y h
   rw [cutF]
   split
   ·rename_i h0; rw [List.eq_nil_of_length_eq_zero h0]; rfl
   ·rw [List.flatten_cons, ih _ (by rw [List.length_drop]; omega), List.take_append_drop]
 have hnum : ∀ (m : Nat), 1 ≤ m → ∀ (k : Nat) (y : List (List Val)), (cutF m k y).length ≤ y.length := by
  intro m hm k
  induction k with
  | zero => intro y; exact Nat.zero_le _
  | succ k ih =>
   intro y
   rw [cutF]
   split
   ·exact Nat.zero_le _
   ·have := ih (y.drop (min m y.length))
    rw [List.length_drop] at this
    rw [List.length_cons]; omega
 have hplen : ∀ (m k : Nat) (y p : List (List Val)), p ∈ cutF m k y → p.length ≤ y.length := by
  intro m k
  induction k with
  | zero => intro y p hp; simp [cutF] at hp
  | succ k ih =>
   intro y p hp
   rw [cutF] at hp
   split at hp
   ·simp at hp
   ·rcases List.mem_cons.1 hp with h | h
    ·subst h; rw [List.length_take]; omega
    ·have := ih _ p h; rw [List.length_drop] at this; omega
 obtain ⟨L, hL⟩ : ∃ L : Nat → List (List (List Val)), L = fun m => (cutF m x.length x).map fun p => fsts (sortF ks (prs g p)) := ⟨_, rfl⟩
 have hLe : ∀ m, L m = (cutF m x.length x).map fun p => fsts (sortF ks (prs g p)) := fun m => by rw [hL]
 have hfl : ∀ m, 1 ≤ m → (L m).flatten.length = x.length := fun m hm => by
  have h := congrArg List.length (hflat m hm x.length x (Nat.le_refl _))
  rw [List.length_flatten] at h
  rw [hLe, List.length_flatten, List.map_map]
  refine Eq.trans (congrArg List.sum ?_) h
  refine List.map_congr_left fun p _ => ?_
  show (fsts (sortF ks (prs g p))).length = p.length
  rw [List.length_map, sortF_len, List.length_map]
 have hmemf : ∀ m r, r ∈ L m → ∀ q, q ∈ r → q ∈ x := fun m r hr q hq => by
  rw [hLe] at hr
  obtain ⟨p, hp, rfl⟩ := List.mem_map.1 hr
  obtain ⟨z, hz, rfl⟩ := List.mem_map.1 hq
  rw [sortF_mem] at hz
  obtain ⟨y, hy, rfl⟩ := List.mem_map.1 hz
  exact hsub m _ x p hp y hy
 have hmem2 : ∀ m q, q ∈ (L m).flatten → q ∈ x := fun m q hq => by
  obtain ⟨r, hr, h⟩ := List.mem_flatten.1 hq
  exact hmemf m r hr q h
 have hnl : ∀ m, 1 ≤ m → (L m).length ≤ x.length := fun m hm => by rw [hLe, List.length_map]; exact hnum m hm _ _
 have hZl : ∀ m, (sortF ks (prs g (L m).flatten)).length = (L m).flatten.length := fun m => by rw [sortF_len, List.length_map]
 have htot : ∀ m, tot ((L m).map (prs g)) = (L m).flatten.length := fun m => by rw [tot_flatten, flat_prs, List.length_map]
 have hme : ∀ m, mergeF ks (tot ((L m).map (prs g))) ((L m).map (prs g)) = sortF ks (prs g (L m).flatten) := fun m => by rw [hLe]; exact merges_eq ks g hg _
 have hrl : ∀ m, 1 ≤ m → ∀ r, r ∈ L m → r.length ≤ x.length := fun m hm r hr => by
  rw [hLe] at hr
  obtain ⟨p, hp, rfl⟩ := List.mem_map.1 hr
  rw [List.length_map, sortF_len, List.length_map]
  exact hplen m _ x p hp
 refine law_ok l x ks n hlive heven L (fun m => if 1 ≤ m then fsts (sortF ks (prs g (L m).flatten)) else []) (fun m => ?_) (fun m m1 m2 => ?_) (fun m m1 m2 => ?_) (fun m m1 m2 => ?_)
 ·split
  ·rename_i h; rw [List.length_map, hZl, hfl m h]; omega
  ·exact Nat.zero_le _
 ·rw [hLe]
  exact cut_ok ks x m (by omega) m1 (by omega) (fun p => fsts (sortF ks (prs g p))) fun p hp => hsort p (hsub m _ x p hp) (by have := hplen m _ x p hp; omega)
 ·rw [if_pos m1]
  have hM := Merge_ok ks hk (L m) (by have := hnl m m1; omega) g hg (fun r hr => reckon_ok r ks (by have := hrl m m1 r hr; omega) hk g hg fun q i k v hq hki hv => hE q i k v (hmemf m r hr q hq) hki hv)
   (by rw [show tot ((L m).map fun r => r.map fun x => (x, g x)) = (L m).flatten.length from htot m, hfl m m1]; omega)
   (by rw [show mergeF ks (tot ((L m).map fun r => r.map fun x => (x, g x))) ((L m).map fun r => r.map fun x => (x, g x)) = _ from hme m, hZl, hfl m m1]; omega)
  rw [show mergeF ks (tot ((L m).map fun r => r.map fun x => (x, g x))) ((L m).map fun r => r.map fun x => (x, g x)) = _ from hme m] at hM
  exact hM
 ·rw [if_pos m1]
  exact r16_Merge ks (L m) (by have := hnl m m1; omega) (by rw [hfl m m1]; omega) (R := (fsts (sortF ks (prs g (L m).flatten)), 0)) (hsort _ (hmem2 m) (by rw [hfl m m1]; omega))
end Go.Ev
end
section
open Go Go.Proofs Go.RowKit
namespace Go.Ev
theorem sortMerges_bad (l x : List (List Val)) (ks : List Key) (n : Int) (g : List Val → List Val) (er : List Val → Int) (hx : x.length ≤ 1000) (hk : ks.length ≤ 1000) (hg : ∀ r, (g r).length = ks.length)
  (hlive : Good Tryz.prog 8 [] [] (cB true) [])
  (heven : Good Tryz.prog 9 [.c (rowsC l), .c (keysC ks)] [] (.tup [.c (rowsC x), cB true]) [])
  (hbad : ∃ r, r ∈ x ∧ er r ≠ 0)
  (hP : ∀ p : List (List Val), (∀ r, r ∈ p → r ∈ x) → p.length ≤ 10000 → (∀ r, r ∈ p → er r = 0) → Good Tryz.prog 38 [.c (rowsC p), .c (.lst 7 false ((ks.map Key.e).map Expr.cs))] [] (.tup [.c (rowsC (p.map g)), cI 0]) [])
  (hQ : ∀ p : List (List Val), (∀ r, r ∈ p → r ∈ x) → p.length ≤ 10000 → (∃ r, r ∈ p ∧ er r ≠ 0) → ∃ f : Int, f ≠ 0 ∧ Good Tryz.prog 38 [.c (rowsC p), .c (.lst 7 false ((ks.map Key.e).map Expr.cs))] [] (.tup [.c (rowsC []), cI f]) []) :
  Good Tryz.prog 7 [.c (rowsC l), .c (keysC ks), cI n] [] (cB true) [] := by
 have hS : ∀ p : List (List Val), ∃ o : List (List Val) × Int, ((∀ r, r ∈ p → r ∈ x) → p.length ≤ 10000 → Good Tryz.prog 16 [.c (rowsC p), .c (keysC ks)] [] (.tup [.c (rowsC o.1), cI o.2]) []) ∧ ((∃ r, r ∈ p ∧ er r ≠ 0) → (∀ r, r ∈ p → r ∈ x) → p.length ≤ 10000 → o.2 ≠ 0) := fun p => by
  by_cases h1 : (∀ r, r ∈ p → r ∈ x) ∧ p.length ≤ 10000
  ·by_cases h2 : ∃ r, r ∈ p ∧ er r ≠ 0
   ·obtain ⟨f, hf, hj⟩ := hQ p h1.1 h1.2 h2
    exact ⟨([], f), fun _ _ => r11_Sort_err ks p h1.2 hk hf hj, fun _ _ _ => hf⟩
   ·have h3 : ∀ r, r ∈ p → er r = 0 := fun r hr => Decidable.byContradiction fun hc => h2 ⟨r, hr, hc⟩
    exact ⟨(fsts (sortF ks (prs g p)), 0), fun _ _ => r11_Sort_ok ks p h1.2 hk g hg (hP p h1.1 h1.2 h3), fun h => absurd h h2⟩
  ·exact ⟨([], 0), fun a b => absurd ⟨a, b⟩ h1, fun _ a b => absurd ⟨a, b⟩ h1⟩
 have hsub : ∀ (m : Nat) (k : Nat) (y : List (List Val)) p, p ∈ cutF m k y → (∀ r, r ∈ p → r ∈ y) ∧ p.length ≤ y.length := by
  intro m k
  induction k with
  | zero => intro y p hp; simp [cutF] at hp
  | succ k ih =>
   intro y p hp
   rw [cutF] at hp
   split at hp
   ·simp at hp
   ·rcases List.mem_cons.1 hp with h | h
    ·subst h; exact ⟨fun r hr => List.mem_of_mem_take hr, by rw [List.length_take]; omega⟩
    ·obtain ⟨i1, i2⟩ := ih _ p h
     exact ⟨fun r hr => List.mem_of_mem_drop (i1 r hr), by rw [List.length_drop] at i2; omega⟩
 have hflat : ∀ (m : Nat), 1 ≤ m → ∀ (k : Nat) (y : List (List Val)), y.length ≤ k → (cutF m k y).flatten = y := by
  intro m hm k
  induction k with
  | zero => intro y h; rw [List.eq_nil_of_length_eq_zero (by omega : y.length = 0)]; rfl
  | succ k ih =>
   intro y h
   rw [cutF]
   split
   ·rename_i h0; rw [List.eq_nil_of_length_eq_zero h0]; rfl
   ·rw [List.flatten_cons, ih _ (by rw [List.length_drop]; omega), List.take_append_drop]
 obtain ⟨T, hT⟩ := Classical.axiomOfChoice hS
 refine law_cut l x ks n hlive heven fun m m1 m2 => cut_bad ks x m (by omega) m1 (by omega) T (fun p hp => ?_) ?_
 ·obtain ⟨i1, i2⟩ := hsub m _ x p hp
  exact (hT p).1 i1 (by omega)
 ·obtain ⟨r, hr, he⟩ := hbad
  have hf := hflat m m1 x.length x (Nat.le_refl _)
  rw [← hf] at hr
  obtain ⟨p, hp, hrp⟩ := List.mem_flatten.1 hr
  obtain ⟨i1, i2⟩ := hsub m _ x p hp
  exact ⟨p, hp, (hT p).2 ⟨r, hrp, he⟩ i1 (by omega)⟩
end Go.Ev
end
section
open Go Go.Proofs Go.RowKit
namespace Go.Ev
theorem firstBad {α : Type} (er : α → Int) : ∀ p : List α, (∃ r, r ∈ p ∧ er r ≠ 0) → ∃ (k : Nat) (y : α), p[k]? = some y ∧ er y ≠ 0 ∧ ∀ (j : Nat) r, j < k → p[j]? = some r → er r = 0
 | [], h => by obtain ⟨r, hr, _⟩ := h; simp at hr
 | a :: p, h => by
  by_cases ha : er a = 0
  ·obtain ⟨r, hr, he⟩ := h
   have hr2 : r ∈ p := by
    rcases List.mem_cons.1 hr with h1 | h1
    ·subst h1; exact absurd ha he
    ·exact h1
   obtain ⟨k, y, h1, h2, h3⟩ := firstBad er p ⟨r, hr2, he⟩
   refine ⟨k + 1, y, by simpa using h1, h2, fun j r hj hg => ?_⟩
   cases j with
   | zero => simp at hg; subst hg; exact ha
   | succ j => exact h3 j r (by omega) (by simpa using hg)
  ·exact ⟨0, a, rfl, ha, fun j r hj => absurd hj (Nat.not_lt_zero _)⟩
theorem sortMerges_eval (l x : List (List Val)) (ks : List Key) (n : Int) (hx : x.length ≤ 1000) (hk : ks.length ≤ 1000)
  (hlive : Good Tryz.prog 8 [] [] (cB true) [])
  (heven : Good Tryz.prog 9 [.c (rowsC l), .c (keysC ks)] [] (.tup [.c (rowsC x), cB true]) [])
  (hEv : ∀ r, r ∈ x → ∀ k, k ∈ ks → EvalR r k.e (evalF r k.e).1 (evalF r k.e).2)
  (hRe : ∀ r, r ∈ x → ∀ k, k ∈ ks → RefR r k.e (evalF r k.e).1 (evalF r k.e).2) :
  Good Tryz.prog 7 [.c (rowsC l), .c (keysC ks), cI n] [] (cB true) [] := by
 obtain ⟨es, hes⟩ : ∃ es, es = ks.map Key.e := ⟨_, rfl⟩
 have hel : es.length ≤ 1000 := by rw [hes, List.length_map]; exact hk
 have hg : ∀ r : List Val, (es.map fun e => (evalF r e).1).length = ks.length := fun r => by rw [List.length_map, hes, List.length_map]
 have hRe2 : ∀ r, r ∈ x → ∀ e, e ∈ es → RefR r e (evalF r e).1 (evalF r e).2 := fun r hr e he => by
  rw [hes] at he
  obtain ⟨k, hkm, rfl⟩ := List.mem_map.1 he
  exact hRe r hr k hkm
 have hval : ∀ r, r ∈ x → (evalL r es).2 = 0 → Good Tryz.prog 50 [.c (.lst 7 false (es.map Expr.cs)), .c (rowC r)] [] (.tup [.c (rowC (es.map fun e => (evalF r e).1)), cI 0]) [] := fun r hr h0 =>
  r11_values_ok es r hel (fun e => (evalF r e).1) fun e he => by
   have := hRe2 r hr e he
   rwa [(evalL_ok r es h0).2 e he] at this
 have hverr : ∀ r, r ∈ x → (evalL r es).2 ≠ 0 → Good Tryz.prog 50 [.c (.lst 7 false (es.map Expr.cs)), .c (rowC r)] [] (.tup [.c (rowC []), cI (evalL r es).2]) [] := fun r hr h0 => by
  obtain ⟨k, y, h1, h2, h3⟩ := evalL_err r es h0
  refine r11_values_err es r hel (fun e => (evalF r e).1) k (fun j e hj he => ?_) (w := (evalF r y).1) h1 h0 ?_
  ·have := hRe2 r hr e (List.mem_of_getElem? he)
   rwa [h3 j e hj he] at this
  ·have := hRe2 r hr y (List.mem_of_getElem? h1)
   rwa [h2] at this
 by_cases hbad : ∃ r, r ∈ x ∧ (evalL r es).2 ≠ 0
 ·refine sortMerges_bad l x ks n (fun r => es.map fun e => (evalF r e).1) (fun r => (evalL r es).2) hx hk hg hlive heven hbad (fun p h1 h2 h3 => ?_) (fun p h1 h2 h3 => ?_)
  ·rw [← hes]
   exact r11_Project_ok p es (by omega) _ fun r hr => hval r (h1 r hr) (h3 r hr)
  ·obtain ⟨k, y, g1, g2, g3⟩ := firstBad (fun r => (evalL r es).2) p h3
   refine ⟨(evalL y es).2, g2, ?_⟩
   rw [← hes]
   exact r11_Project_err p es (by omega) (fun r => es.map fun e => (evalF r e).1) k (fun j r hj hr => hval r (h1 r (List.mem_of_getElem? hr)) (g3 j r hj hr)) g1 g2 (hverr y (h1 y (List.mem_of_getElem? g1)) g2)
 ·have h0 : ∀ r, r ∈ x → (evalL r es).2 = 0 := fun r hr => Decidable.byContradiction fun hc => hbad ⟨r, hr, hc⟩
  refine sortMerges_ok l x ks n (fun r => es.map fun e => (evalF r e).1) hx hk hg hlive heven (fun r i k v hr hki hv => ?_) (fun p h1 h2 => ?_)
  ·have hkm := List.mem_of_getElem? hki
   rw [List.getElem?_map, hes, List.getElem?_map, hki] at hv
   cases hv
   have := hEv r hr k hkm
   rwa [(evalL_ok r es (h0 r hr)).2 k.e (by rw [hes]; exact List.mem_map.2 ⟨k, hkm, rfl⟩)] at this
  ·rw [← hes]
   exact r11_Project_ok p es (by omega) _ fun r hr => hval r (h1 r hr) (h0 r (h1 r hr))
end Go.Ev
end
section
open Go Go.Proofs Go.RowKit
namespace Go.Ev
theorem atB_at {e : Expr} {n : Int} (h : atB e n = true) : 0 ≤ e.v.i ∧ e.v.i < n := by
 unfold atB at h; simp only [Bool.and_eq_true, decide_eq_true_eq] at h
 exact ⟨h.1.1.1.1.2, h.1.1.1.2⟩
theorem wt_nodes (e : Expr) : Expr.All (fun x => x.v.s.size ≤ 100000) e → wtE e ≤ 100000 * e.nodes := by
 induction e using Expr.ind with
 | h e ih =>
  intro h
  rw [Expr.All_iff] at h
  rw [wtE_eq, nodes_eq]
  have hL : wtL e.l ≤ 100000 * Expr.nodesL e.l := by
   have key : ∀ l : List Expr, (∀ x, x ∈ l → wtE x ≤ 100000 * x.nodes) → wtL l ≤ 100000 * Expr.nodesL l := fun l => by
    induction l with
    | nil => intro _; exact Nat.zero_le _
    | cons x l ihl =>
     intro hx
     rw [wtL, Expr.nodesL]
     have h1 := hx x (by simp)
     have h2 := ihl fun y hy => hx y (by simp [hy])
     omega
   exact key e.l fun x hx => ih x hx (h.2 x hx)
  have := h.1
  split
  ·omega
  ·split <;> omega
def headB (e : Expr) : Bool := partsB e.op e.l.length && ((e.op.toList == sLit.toList) || e.v.same zeroV) && (e.table.size == 0) && (if e.op.toList == sLit.toList then e.v.ok && e.name.size == 0 else if e.op.toList == sCall.toList then nameB e.name else e.name.size == 0)
structure NodeOK (n : Int) (e : Expr) : Prop where
 np : notP e = false
 hd : (if e.op.toList == sAt.toList then atB e n else headB e) = true
theorem partsB_lit {op : ByteArray} (h : (op.toList == sLit.toList) = true) (n : Nat) : partsB op n = (n == 0) := by
 have : inB7 op zeroL = true := List.any_eq_true.2 ⟨_, .head _, h⟩
 unfold partsB; rw [this, if_pos rfl]
theorem notP_no {e : Expr} (h : notP e = false) : (e.op.toList == sCol.toList) = false ∧ (e.op.toList == sStar.toList) = false ∧ ((e.op.toList == sCall.toList) = true → inB7 e.name aggL = false) := by
 unfold notP at h
 rw [Bool.or_eq_false_iff, Bool.or_eq_false_iff] at h
 refine ⟨h.1.1, h.1.2, fun h3 => ?_⟩
 have := h.2
 rw [h3, Bool.true_and] at this
 exact this
theorem mayL_iff : ∀ l : List Expr, mayL l = true ↔ ∀ x, x ∈ l → mayE x = true
 | [] => by simp [mayL]
 | x :: l => by rw [mayL, Bool.and_eq_true, mayL_iff l]; simp
theorem count_no {e : Expr} (h : inB7 e.name aggL = false) : countE e = false := by
 have : (e.name.toList == sCount.toList) = false := by
  cases hc : (e.name.toList == sCount.toList)
  ·rfl
  ·have : inB7 e.name aggL = true := List.any_eq_true.2 ⟨_, .head _, hc⟩
   rw [h] at this; cases this
 unfold countE; rw [this]; rfl
theorem atB_len {e : Expr} {n : Int} (h : atB e n = true) : e.l = [] := by
 unfold atB at h; simp only [Bool.and_eq_true] at h
 exact List.eq_nil_of_length_eq_zero (beq_iff_eq.1 h.2)
theorem deepL_map {f : Expr → Expr} : ∀ {l : List Expr}, (∀ x, x ∈ l → deepE (f x) = deepE x) → deepL (l.map f) = deepL l
 | [], _ => rfl
 | x :: l, h => by rw [List.map_cons, deepL, deepL, h x (by simp), deepL_map fun y hy => h y (by simp [hy])]
theorem may_head (op : ByteArray) (v : Val) (t nm : ByteArray) (l : List Expr) (h1 : (op.toList == sCol.toList) = false) (h2 : (op.toList == sStar.toList) = false) (h3 : (op.toList == sCall.toList) = true → inB7 nm aggL = false) :
  mayE (.mk op v t nm l) = (headB (.mk op v t nm l) && ((op.toList == sLit.toList) || mayL l)) := by
 have e0 : mayE (.mk op v t nm l) = if partsB op l.length = false then false else if (op.toList == sLit.toList) = false ∧ v.same zeroV = false then false else if (op.toList == sCol.toList) = false ∧ (t.size == 0) = false then false
  else if op.toList == sLit.toList then v.ok && nm.size == 0 else if op.toList == sCol.toList then nameB nm && (t.size == 0 || nameB t) else if op.toList == sStar.toList then false
  else if op.toList == sCall.toList then (if nameB nm = false then false else if countE (.mk op v t nm l) then (match l with | x :: _ => eqE x starE | [] => false) else mayL l)
  else if (nm.size == 0) = false then false else mayL l := mayE_eq _
 have e1 : headB (.mk op v t nm l) = (partsB op l.length && ((op.toList == sLit.toList) || v.same zeroV) && (t.size == 0) && (if op.toList == sLit.toList then v.ok && nm.size == 0 else if op.toList == sCall.toList then nameB nm else nm.size == 0)) := rfl
 rw [e0, e1, h1, h2]
 cases pp : partsB op l.length
 ·simp
 cases ol : (op.toList == sLit.toList)
 ·cases vs : v.same zeroV
  ·simp
  cases ts : (t.size == 0)
  ·simp
  cases oc : (op.toList == sCall.toList)
  ·cases ns : (nm.size == 0) <;> simp
  ·have hc : countE (.mk op v t nm l) = false := count_no (e := .mk op v t nm l) (h3 oc)
   rw [hc]
   cases nb : nameB nm <;> simp
 ·cases ts : (t.size == 0)
  ·simp
  ·simp
theorem valid_all (n : Int) (e : Expr) : (namedE n e).2 = true → mayE (namedE n e).1 = true → Expr.All (NodeOK n) e ∧ deepE (namedE n e).1 = deepE e := by
 induction e using Expr.ind with
 | h e ih =>
  intro h1 h2
  rw [namedE_eq] at h1 h2 ⊢
  cases hp : notP e
  case true => rw [hp, if_pos rfl] at h1; cases h1
  rw [hp, if_neg (by simp)] at h1 h2
  rw [if_neg (by simp)]
  cases ha : (e.op.toList == sAt.toList)
  case true =>
   rw [ha, if_pos rfl] at h1 h2
   rw [if_pos rfl, Expr.All_iff]
   have hl := atB_len (e := e) h1
   refine ⟨⟨⟨hp, by rw [ha, if_pos rfl]; exact h1⟩, fun x hx => by rw [hl] at hx; cases hx⟩, ?_⟩
   rw [deepE_eq, deepE_eq e, hl]; rfl
  rw [ha, if_neg (by simp)] at h1 h2
  rw [if_neg (by simp)]
  cases hL : (namedL n e.l).2
  case false => rw [hL, if_neg (by simp)] at h1; cases h1
  have hall : ∀ x, x ∈ e.l → (namedE n x).2 = true := fun x hx => by
   cases hx2 : (namedE n x).2
   ·rw [namedL_bad n e.l x hx hx2] at hL; cases hL
   ·rfl
  have hok := namedL_ok n e.l hall
  rw [hL, if_pos rfl] at h2
  rw [if_pos rfl]
  rw [hok] at h2 ⊢
  obtain ⟨n1, n2, n3⟩ := notP_no hp
  rw [may_head _ _ _ _ _ n1 n2 n3, Bool.and_eq_true] at h2
  obtain ⟨hh, hm⟩ := h2
  have hh' : headB e = true := by
   have : headB (.mk e.op e.v e.table e.name (e.l.map fun x => (namedE n x).1)) = headB e := by
    unfold headB
    show (partsB e.op (e.l.map fun x => (namedE n x).1).length && _ && _ && _) = _
    rw [List.length_map]; rfl
   rw [← this]; exact hh
  have hkids : ∀ x, x ∈ e.l → Expr.All (NodeOK n) x ∧ deepE (namedE n x).1 = deepE x := fun x hx => by
   refine ih x hx (hall x hx) ?_
   cases ol : (e.op.toList == sLit.toList)
   ·rw [ol, Bool.false_or] at hm
    exact (mayL_iff _).1 hm _ (List.mem_map.2 ⟨x, hx, rfl⟩)
   ·exfalso
    unfold headB at hh'
    simp only [Bool.and_eq_true] at hh'
    have := hh'.1.1.1
    rw [partsB_lit ol, beq_iff_eq] at this
    rw [List.eq_nil_of_length_eq_zero this] at hx; cases hx
  rw [Expr.All_iff]
  refine ⟨⟨⟨hp, by rw [ha, if_neg (by simp)]; exact hh'⟩, fun x hx => (hkids x hx).1⟩, ?_⟩
  rw [deepE_eq, deepE_eq e]
  show deepL (e.l.map fun x => (namedE n x).1) + 1 = _
  rw [deepL_map fun x hx => (hkids x hx).2]
theorem may_colA : mayE colA = true := by
 have h1 : nameB sA = true := by
  have hs : (sA : ByteArray)[0]? = some 97 := rfl
  unfold nameB
  rw [hs]
  have hr : resB sA = false := by
   unfold resB resL
   simp only [Go.ByteArray.toList_eq]
   decide
  have hn : namesTo sA sA.size = true := by kernel_rfl
  simp only [hr, hn]
  decide
 have e0 := mayE_eq colA
 rw [e0]
 have g1 : partsB colA.op colA.l.length = true := by
  have : inB7 sCol zeroL = true := List.any_eq_true.2 ⟨_, .tail _ (.head _), beq_self_eq_true _⟩
  show partsB sCol 0 = true
  unfold partsB; rw [this]; rfl
 have g2 : (colA.op.toList == sLit.toList) = false := (bs_eq [99, 111, 108] [108, 105, 116]).trans rfl
 have g3 : (colA.op.toList == sCol.toList) = true := beq_self_eq_true _
 have g4 : colA.v.same zeroV = true := same_self _
 have g5 : nameB colA.name = true := h1
 have g6 : (colA.table.size == 0) = true := rfl
 rw [g1, g2, g3, g4, g5, g6]; rfl
theorem all_valid (n : Int) (e : Expr) : Expr.All (NodeOK n) e → (namedE n e).2 = true ∧ mayE (namedE n e).1 = true := by
 induction e using Expr.ind with
 | h e ih =>
  intro h
  rw [Expr.All_iff] at h
  obtain ⟨⟨hp, hd⟩, hk⟩ := h
  rw [namedE_eq, hp, if_neg (by simp)]
  cases ha : (e.op.toList == sAt.toList)
  case true =>
   rw [ha, if_pos rfl] at hd
   rw [if_pos rfl]
   exact ⟨hd, may_colA⟩
  rw [ha, if_neg (by simp)] at hd
  rw [if_neg (by simp)]
  have hall : ∀ x, x ∈ e.l → (namedE n x).2 = true := fun x hx => (ih x hx (hk x hx)).1
  have hok := namedL_ok n e.l hall
  rw [hok, if_pos rfl]
  refine ⟨rfl, ?_⟩
  obtain ⟨n1, n2, n3⟩ := notP_no hp
  show mayE (.mk e.op e.v e.table e.name (e.l.map fun x => (namedE n x).1)) = true
  rw [may_head _ _ _ _ _ n1 n2 n3, Bool.and_eq_true]
  constructor
  ·have : headB (.mk e.op e.v e.table e.name (e.l.map fun x => (namedE n x).1)) = headB e := by
    unfold headB
    show (partsB e.op (e.l.map fun x => (namedE n x).1).length && _ && _ && _) = _
    rw [List.length_map]; rfl
   rw [this]; exact hd
  ·rw [Bool.or_eq_true]
   right
   rw [mayL_iff]
   intro x hx
   obtain ⟨y, hy, rfl⟩ := List.mem_map.1 hx
   exact (ih y hy (hk y hy)).2
theorem checkN_ok (n : Int) (e : Expr) : checkN n e = 0 ↔ Expr.All (NodeOK n) e ∧ deepE e ≤ 40 := by
 constructor
 ·intro h
  unfold checkN at h
  cases h1 : (namedE n e).2
  ·rw [h1] at h; exact absurd h (by simp)
  ·rw [h1, if_pos rfl] at h
   unfold checkE at h
   cases h2 : mayE (namedE n e).1
   ·rw [h2] at h; exact absurd h (by simp)
   ·rw [h2, if_pos rfl] at h
    obtain ⟨h3, h4⟩ := valid_all n e h1 h2
    refine ⟨h3, ?_⟩
    rw [h4] at h
    by_cases h5 : deepE e > 40
    ·rw [if_pos h5] at h; exact absurd h (by simp)
    ·omega
 ·rintro ⟨h1, h2⟩
  obtain ⟨h3, h4⟩ := all_valid n e h1
  have h5 := (valid_all n e h3 h4).2
  unfold checkN checkE
  rw [h3, h4, h5, if_pos rfl, if_pos rfl, if_neg (by omega)]
theorem ok_inrow {n : Nat} {e : Expr} (h : NodeOK n e) : InRow n e := fun h1 => by
 have h2 := h.hd
 rw [if_pos h1] at h2
 exact atB_at h2
end Go.Ev
end
section
open Go Go.Proofs Go.RowKit
namespace Go.Ev
theorem parts_ok {n : Int} {e : Expr} (h : NodeOK n e) : PartsOK e := by
 refine ⟨fun h1 => ?_, fun h1 => ?_⟩
 ·have h2 := h.hd
  rw [if_pos h1] at h2
  exact atB_len h2
 ·have h2 := h.hd
  rw [h1, if_neg (by simp)] at h2
  unfold headB at h2
  simp only [Bool.and_eq_true] at h2
  obtain ⟨q1, q2, _⟩ := notP_no h.np
  exact ⟨h2.1.1.1, q1, q2⟩
theorem sortMerges_given (l x : List (List Val)) (ks : List Key) (n : Int) (w : Nat) (hx : x.length ≤ 1000) (hk : ks.length ≤ 1000)
  (hlive : Good Tryz.prog 8 [] [] (cB true) [])
  (heven : Good Tryz.prog 9 [.c (rowsC l), .c (keysC ks)] [] (.tup [.c (rowsC x), cB true]) [])
  (hw : ∀ r, r ∈ x → r.length = w ∧ ∀ v, v ∈ r → I64 v.i ∧ v.s.size ≤ 100000)
  (hke : ∀ k, k ∈ ks → wtE k.e ≤ 9000000 ∧ Expr.All (fun y => I64 y.v.i ∧ y.l.length ≤ 1000) k.e ∧ checkN w k.e = 0) :
  Good Tryz.prog 7 [.c (rowsC l), .c (keysC ks), cI n] [] (cB true) [] := by
 have hall : ∀ r, r ∈ x → ∀ k, k ∈ ks → Expr.All (fun y => NodeW r.length y ∧ PartsOK y) k.e := fun r hr k hkm => by
  obtain ⟨_, h1, h2⟩ := hke k hkm
  have h3 := ((checkN_ok (w : Int) k.e).1 h2).1
  rw [(hw r hr).1]
  have key : ∀ e : Expr, Expr.All (fun y => I64 y.v.i ∧ y.l.length ≤ 1000) e → Expr.All (NodeOK (w : Int)) e → Expr.All (fun y => NodeW w y ∧ PartsOK y) e := fun e => by
   induction e using Expr.ind with
   | h e ih =>
    intro a b
    rw [Expr.All_iff] at a b ⊢
    exact ⟨⟨⟨ok_inrow b.1, a.1.1, a.1.2⟩, parts_ok b.1⟩, fun y hy => ih y hy (a.2 y hy) (b.2 y hy)⟩
  exact key k.e h1 h3
 refine sortMerges_eval l x ks n hx hk hlive heven (fun r hr k hkm => ?_) (fun r hr k hkm => ?_)
 ·exact (evalF_all r (hw r hr).2 k.e (hke k hkm).1 ((hall r hr k hkm).imp fun y hy => hy.1)).2.1
 ·exact refEval r (hw r hr).2 k.e (hke k hkm).1 (hall r hr k hkm)
end Go.Ev
end
