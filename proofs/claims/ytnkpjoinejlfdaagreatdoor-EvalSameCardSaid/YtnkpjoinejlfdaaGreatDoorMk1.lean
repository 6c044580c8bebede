import Derived.Test.YtnkpjoinejlfdaaGreatDoorLay
import Derived.Test.YtnkpjoinejlfdaaGreatDoorMe1
import Derived.Lib.SlKeysI
import Derived.Test.YtnkpjoinejlfdaaGreatDoorMe2
section
set_option linter.all false
set_option linter.all false
namespace Go.Proofs
open Go.RowKit Go.Maps Go.Sort Go.Shelf
theorem Tryz.sortsA (m : Nat) : AnyZI.SortsIn Tryz.prog Tryz.sortedA_ren Fence.wide m :=
  ⟨fun blk off cap ss W hH hblk hsz => callsIn_wide.2 (AnyM.slices_Sort_int Tryz.sortA blk off cap ss W hH hblk hsz),
   fun p cap W => callsIn_wide.2 (AnyM.slices_Sort_int_none Tryz.sortA p cap W)⟩
set_option maxHeartbeats 1000000 in
theorem Tryz.sortedKeys {H : Type} (p b nn : Nat) (ty : TypeId) (fr : Nat × Nat) (D0 : DataW H) (R : Value → Option (DataW H × List MemPlace)) (w : World) (hp : w.heap[p]? = some (.cells #[.map (some b)] ty fr)) (hown : w.ownsMap Tryz.prog 3 R b nn D0) (hmax : Maps.size D0 ≤ maxLen) (hbytes : Maps.size D0 * 8 ≤ 140737488355328) :
    Calls Tryz.prog 35 #[.func (.func 75) #[] #[.pointer (some ⟨p, 0, none⟩)]] w fun e w' => ∃ (v : Value) (ss : List Int), e = .returned v ∧ ss.Perm (intKeys D0) ∧
      w'.ownsRow w.heap.size 3 1 v ss.length ((ss.mergeSort (fun x y => decide (x ≤ y))).map encZ) ∧ (v = .slice none 0 0 ↔ ss = []) ∧ Below w.heap.size w w' := by
  refine (callsIn_wide (n := 6)).1 ?_
  have hbl := hown.lt
  have hseq : SeqGives Fence.wide 3 Tryz.prog 75 #[.pointer (some ⟨p, 0, none⟩)] encZ (fun ss => ss.Perm (intKeys D0)) (Maps.size D0) w :=
    AnyZI.keys_gives (ρ := Tryz.keysA_ren) { Tryz.keysA with } Fence.wide 3 trivial rfl (by omega) p b nn D0 w (Array.getElem?_eq_some_iff.1 hp).1 (by simp [World.cell?, hp]) hown
  have cS := AnyZI.sorted_in Tryz.sortedA Fence.wide 6 trivial trivial trivial trivial rfl (by omega) (Tryz.sortsA _) (enters_of Tryz.func74 (by kernel_rfl) rfl) 75 #[.pointer (some ⟨p, 0, none⟩)] trivial (enters_of Tryz.func75 (by kernel_rfl) rfl) _ _ hmax hbytes _ hseq
  exact cS
end Go.Proofs
end
section
set_option linter.all false
open Go Go.Proofs Go.RowKit Go.Maps
namespace Go.Ev
def keyInt : CV → Int
  | .int _ n => n
  | _ => 0
def keysOf (es : List (CV × AV × Nat)) : List Int := es.map fun e => keyInt e.1
def sortedAV : List Int → AV
  | [] => .c .nl
  | l => .c (.lst 1 false (l.map fun n => [.int .i64 n]))
structure KeyMap (es : List (CV × AV × Nat)) (clk : Nat) : Prop where
  int : ∀ e, e ∈ es → ∃ n, e.1 = .int .i64 n ∧ (Lit.int .i64 n).wf = true
  keys : (keysOf es).Nodup
  born : ∀ e, e ∈ es → e.2.2 < clk
  apart : (es.map fun e => e.2.2).Nodup
  size : es.length ≤ 1000000
theorem keys_perm {H : Type} {P : Program} {k : TypeId} {R : Value → Option (DataW H × List MemPlace)} {w : World} {N : Nat → Prop} {ρ : Nat → Pl} {es : List (CV × AV × Nat)} {L : List MapEntry} (hE : EntsAt w N ρ es L) (hk : ∀ e, e ∈ es → ∃ n, e.1 = .int .i64 n)
    (hr : ∀ x, x ∈ L → ∀ n, x.key = .int .i64 n → (Go.WideElems.rg P k R x).1 = .int .i64 n) : (intKeys (.map ((L.map (Go.WideElems.rg P k R)).foldr DataW.insert []))).Perm (keysOf es) := by
  have h1 := (Go.WideShapes.sorted_perm (L.map (Go.WideElems.rg P k R))).map (fun p => intOf p.1)
  refine h1.trans (List.Perm.of_eq ?_)
  rw [List.map_map]
  apply List.ext_getElem
  · simp [keysOf, hE.1]
  · intro i h1 h2
    simp only [keysOf, List.length_map] at h1 h2
    obtain ⟨x, hx, hc, _⟩ := hE.2 i h2
    obtain ⟨n, hn⟩ := hk _ (List.getElem_mem h2)
    rw [hn] at hc
    have hxe : L[i] = x := by rw [List.getElem?_eq_getElem h1] at hx; exact Option.some.inj hx
    simp only [List.getElem_map, Function.comp, keysOf, hxe, hn, keyInt]
    have hkey : x.key = .int .i64 n := by
      generalize x.key = y at hc; cases hc; rfl
    rw [hr x (hxe ▸ List.getElem_mem h1) n hkey]; rfl
abbrev Rnil : Value → Option (DataW Unit × List MemPlace) := fun _ => some (.nil, [])
theorem key_read {x : MapEntry} {n : Int} (hx : x.key = .int .i64 n) (hw : (Lit.int .i64 n).wf = true) : Go.WideElems.rd Tryz.prog 3 Rnil x = some (.int .i64 n, .nil) := by
  have hk : keyOf Tryz.prog 3 x.key = some (.int .i64 n) := by
    rw [hx]
    have hu : Tryz.prog.underlying 3 = some (.int .i64) := by kernel_rfl
    simp [keyOf, hu, mapKey, hw]
  unfold Go.WideElems.rd
  rw [hk]; rfl
theorem good_sortedKeys {es : List (CV × AV × Nat)} {clk : Nat} (K : KeyMap es clk) : Good Tryz.prog 35 [.fn 75 [.ptr 0 0]] [.box [.mp 1], .mp es clk] (sortedAV ((keysOf es).mergeSort leI)) [.box [.mp 1], .mp es clk] := by
  intro w N ρ vs H hs hl hr
  obtain ⟨x0, rfl⟩ : ∃ x0, vs = [x0] := match vs, hl with | [x], _ => ⟨x, rfl⟩
  have r0 := hr 0 (by simp) (by simp)
  simp only [List.getElem_cons_zero] at r0
  cases r0 with
  | fn _ _ us hl2 hr2 =>
  obtain ⟨y, rfl⟩ : ∃ y, us = [y] := match us, hl2 with | [x], _ => ⟨x, rfl⟩
  have r1 := hr2 0 (by simp) (by simp)
  simp only [List.getElem_cons_zero] at r1
  cases r1
  obtain ⟨hp, hb, cells, t, fr, hh, hf, hsz, hc⟩ := H.own 0 (.box [.mp 1]) rfl
  obtain ⟨x, hx, hrx⟩ := hc 0 (by simp)
  simp only [List.getElem_cons_zero] at hrx
  cases hrx
  have hcells : cells = #[.map (some (ρ 1).b)] := by
    obtain ⟨l⟩ := cells
    match l, hsz with
    | [a], _ => simp at hx; rw [hx]
  obtain ⟨ho, A, hA, hE⟩ := mp_ents H (id := 1) (es := es) (clk := clk) rfl
  have hAl : A.size = es.length := by simpa using hE.1
  have hkeyAt : ∀ x, x ∈ A.toList → ∃ n, x.key = .int .i64 n ∧ (Lit.int .i64 n).wf = true := fun x hx => by
    obtain ⟨i, hi, rfl⟩ := List.getElem_of_mem hx
    have hi' : i < es.length := by rw [← hE.1]; exact hi
    obtain ⟨z, hz, hk, _⟩ := hE.2 i hi'
    rw [List.getElem?_eq_getElem hi] at hz; cases hz
    obtain ⟨n, hn, hw⟩ := K.int _ (List.getElem_mem hi')
    rw [hn] at hk
    generalize A.toList[i].key = y at hk
    cases hk; exact ⟨n, rfl, hw⟩
  have hst : MapKept.Stamped A clk := by
    refine ⟨fun x hx => ?_, ?_, ?_⟩
    · obtain ⟨i, hi, rfl⟩ := List.getElem_of_mem hx
      have hi' : i < es.length := by rw [← hE.1]; exact hi
      obtain ⟨z, hz, _, hbo, _⟩ := hE.2 i hi'
      rw [List.getElem?_eq_getElem hi] at hz; cases hz
      rw [hbo]; exact K.born _ (List.getElem_mem hi')
    · have e : A.toList.map (·.born) = es.map fun e => e.2.2 := by
        apply List.ext_getElem
        · simp [hAl]
        · intro i h1 h2
          simp only [List.length_map] at h1 h2
          obtain ⟨z, hz, _, hbo, _⟩ := hE.2 i h2
          rw [List.getElem?_eq_getElem h1] at hz; cases hz
          simpa using hbo
      rw [e]; exact K.apart
    · have e : A.toList.map (·.key) = (keysOf es).map encZ := by
        apply List.ext_getElem
        · simp [hAl, keysOf]
        · intro i h1 h2
          simp only [List.length_map, keysOf] at h1 h2
          obtain ⟨z, hz, hk, _⟩ := hE.2 i h2
          rw [List.getElem?_eq_getElem h1] at hz; cases hz
          obtain ⟨n, hn, _⟩ := K.int _ (List.getElem_mem h2)
          rw [hn] at hk
          simp only [List.getElem_map, keysOf, hn, keyInt]
          generalize A.toList[i].key = y at hk
          cases hk; rfl
      rw [e]
      exact List.Pairwise.map _ (fun a b hab h => hab (encZ_inj h)) K.keys
  have hown : w.ownsMap Tryz.prog 3 Rnil (ρ 1).b es.length (.map ((A.toList.map (Go.WideElems.rg Tryz.prog 3 Rnil)).foldr DataW.insert [])) :=
    ⟨A, clk, hA, ⟨by rw [hAl]; exact Nat.le_trans K.size (by decide), hst, fun x hx => by
      obtain ⟨n, h1, h2⟩ := hkeyAt x hx; exact ⟨_, key_read h1 h2⟩⟩, by omega, rfl⟩
  have hperm2 := keys_perm (P := Tryz.prog) (k := 3) (R := Rnil) hE (fun e he => by obtain ⟨n, h, _⟩ := K.int e he; exact ⟨n, h⟩) (fun x hx n hn => by
    obtain ⟨m, h1, h2⟩ := hkeyAt x hx
    rw [h1] at hn; cases hn
    unfold Go.WideElems.rg; rw [key_read h1 h2]; rfl)
  have hsize : Maps.size (DataW.map ((A.toList.map (Go.WideElems.rg Tryz.prog 3 Rnil)).foldr DataW.insert [])) = es.length := by
    show (List.foldr DataW.insert [] _).length = _
    rw [(Go.WideShapes.sorted_perm _).length_eq, List.length_map, Array.length_toList, hAl]
  have key := Tryz.sortedKeys (ρ 0).b (ρ 1).b es.length t fr _ Rnil w (by rw [hh, hcells]) hown (by rw [hsize]; exact Nat.le_trans K.size (by decide)) (by rw [hsize]; have := K.size; omega)
  refine .inl ⟨enters_of Tryz.func35 (by kernel_rfl) rfl _ _, ?_⟩
  rw [hb, Nat.add_zero] at *
  refine key.mono ?_
  rintro e w' ⟨v, ss, rfl, hss, hrow, hnil, hbel⟩
  refine ⟨v, rfl, ?_⟩
  have hsrt : ss.mergeSort leI = (keysOf es).mergeSort leI := mergeSort_of_perm_i (hss.trans hperm2)
  have hmade : Made w w' := ⟨hbel.os, hbel.tape, hbel.output, hbel.size, fun b hb => hbel.block b hb⟩
  obtain ⟨H', K'⟩ := H.made hmade
  rw [← hsrt]
  have hlen : (ss.mergeSort leI).length = ss.length := List.length_mergeSort ss
  rcases hrow.2 with ⟨rfl, hz⟩ | ⟨g, cap, cur, rfl, hge, hblk, hn, hcap, hcs, htake⟩
  · have : ss = [] := List.eq_nil_of_length_eq_zero hz
    subst this
    have e : sortedAV (([] : List Int).mergeSort leI) = .c .nl := by simp [sortedAV]
    rw [e]
    exact ⟨⟨N, ρ, H', .c .nl, K', rfl⟩⟩
  · have hne : ss.mergeSort leI ≠ [] := fun e => by
      have : ss = [] := List.eq_nil_of_length_eq_zero (by rw [← hlen, e]; rfl)
      have := hnil.2 this; cases this
    have e : sortedAV (ss.mergeSort leI) = .c (.lst 1 false ((ss.mergeSort leI).map fun n => [.int .i64 n])) := by
      generalize ss.mergeSort leI = l at hne
      cases l with
      | nil => exact absurd rfl hne
      | cons a l => rfl
    rw [e]
    have hst : ∀ b, N b → (N b ∨ b = g) ∧ w'.heap[b]? = w.heap[b]? := fun b hN => ⟨.inl hN, (K'.stay b hN).2⟩
    have hst' : ∀ b, N b → (N b ∨ b = g) ∧ w'.heap[b]? = w'.heap[b]? := fun b hN => ⟨.inl hN, rfl⟩
    have hgl : g < w'.heap.size := (Array.getElem?_eq_some_iff.1 hblk).1
    refine ⟨⟨fun b => N b ∨ b = g, ρ, ⟨?_, H'.inj, ?_, fun i k hk => ?_, H'.scope, H'.glob.mono hst'⟩, .c ?_, ⟨K'.os, K'.tape, K'.output, K'.size, K'.rho, hst, ?_, K'.rest, K'.new⟩, rfl⟩⟩
    · rintro b (hb | rfl)
      · exact H'.lt b hb
      · exact hgl
    · rintro i hi (hb | hb)
      · exact H'.apart i hi hb
      · have := own_lt H hi; omega
    · exact (H'.own i k hk).mono (q := born _) (H'.scope i _ hk) (fun _ _ _ => rfl) hst' fun _ _ => rfl
    · have hcell : ∀ j, j < ss.length → cur[j]? = some (encZ ((ss.mergeSort leI)[j]?.getD 0)) := fun j hj => by
        have h1 : (cur.toList.take (ss.length * 1))[j]? = ((ss.mergeSort leI).map encZ)[j]? := by rw [htake]
        rw [List.getElem?_take_of_lt (by omega), Array.getElem?_toList, List.getElem?_map, List.getElem?_eq_getElem (by omega)] at h1
        rw [h1, List.getElem?_eq_getElem (by omega)]; rfl
      have := RepC.lst (w := w') (N := fun b => N b ∨ b = g) 1 false ((ss.mergeSort leI).map fun n => [.int .i64 n]) (some ⟨g, 0, none⟩) cap (fun j _ => encZ ((ss.mergeSort leI)[j]?.getD 0)) (fun h => by cases h) (by simp [hlen]; exact hn) hcap
        (fun e he => by obtain ⟨n, _, rfl⟩ := List.mem_map.1 he; rfl) (fun j i hj hi => by
          have hj' : j < ss.length := by simpa [hlen] using hj
          refine ⟨g, 0, rfl, .inr rfl, ?_⟩
          have hi0 : i = 0 := by omega
          subst hi0
          rw [cell_of_block hblk]
          simpa using hcell j hj') (fun j i hj hi => by
          have hj' : j < (ss.mergeSort leI).length := by simpa using hj
          simp only [List.getElem_map] at hi ⊢
          have hi0 : i = 0 := by simpa using hi
          subst hi0
          rw [List.getElem?_eq_getElem hj']
          exact .int _ _)
      rw [List.length_map, hlen] at this
      exact this
    · rintro b (hb | rfl)
      · exact .inl hb
      · exact .inr (.inl hge)
end Go.Ev
end
section
set_option linter.all false
set_option linter.all false
open Go Go.Proofs
namespace Go.Ev
def addN (n : Int) (ns : List Int) : List Int := if n ∈ ns then ns else ns ++ [n]
mutual
def Expr.uses : Expr → List Int → List Int
  | .mk op v _ _ l, ns => Expr.usesL l (if op.toList == sAt.toList then addN v.i ns else ns)
def Expr.usesL : List Expr → List Int → List Int
  | [], ns => ns
  | e :: l, ns => Expr.usesL l (e.uses ns)
end
theorem Expr.uses_eq (e : Expr) (ns : List Int) : e.uses ns = Expr.usesL e.l (if e.op.toList == sAt.toList then addN e.v.i ns else ns) := by cases e; rfl
theorem Expr.usesL_append : ∀ (l m : List Expr) (ns : List Int), Expr.usesL (l ++ m) ns = Expr.usesL m (Expr.usesL l ns)
  | [], _, _ => rfl
  | e :: l, m, ns => by simp only [List.cons_append, Expr.usesL]; exact Expr.usesL_append l m _
def esN : Nat → List Int → List (CV × AV × Nat)
  | _, [] => []
  | i, n :: ns => (.int .i64 n, cB true, i) :: esN (i + 1) ns
theorem esN_append : ∀ (i : Nat) (l m : List Int), esN i (l ++ m) = esN i l ++ esN (i + l.length) m
  | i, [], m => by simp [esN]
  | i, n :: l, m => by simp [esN, esN_append (i + 1) l m, Nat.add_comm, Nat.add_left_comm]
theorem esN_find (n : Int) : ∀ (i k : Nat) (ns : List Int), (n ∉ ns ∧ findE (.int .i64 n) (esN i ns) k = some none) ∨ (n ∈ ns ∧ ∃ j v, findE (.int .i64 n) (esN i ns) k = some (some (k + j, v)) ∧ (esN i ns).modify j (fun e => (e.1, cB true, e.2.2)) = esN i ns)
  | i, k, [] => .inl ⟨by simp, rfl⟩
  | i, k, a :: ns => by
    by_cases h : n = a
    · refine .inr ⟨by simp [h], 0, cB true, ?_, ?_⟩
      · simp [esN, findE, keyEq, h]
      · simp [esN]
    · have hb : keyEq (.int .i64 n) (.int .i64 a) = some false := by simp [keyEq, h]
      rcases esN_find n (i + 1) (k + 1) ns with ⟨h1, h2⟩ | ⟨h1, j, v, h2, h3⟩
      · refine .inl ⟨by simp [h, h1], ?_⟩
        simp only [esN, findE, hb]; exact h2
      · refine .inr ⟨by simp [h1], j + 1, v, ?_, ?_⟩
        · simp only [esN, findE, hb]; rw [h2]; congr 3; omega
        · simp only [esN, List.modify_succ_cons, h3]
theorem esN_put (n : Int) (ns : List Int) : (findE (.int .i64 n) (esN 0 ns) 0).map (fun r => [(1, putE (esN 0 ns) ns.length (.int .i64 n) (cB true) r)]) = some [(1, .mp (esN 0 (addN n ns)) (addN n ns).length)] := by
  rcases esN_find n 0 0 ns with ⟨h1, h2⟩ | ⟨h1, j, v, h2, h3⟩
  · rw [h2]; simp [putE, addN, h1, esN_append, esN]
  · rw [h2]; simp only [Option.map_some, putE, Nat.zero_add, h3, addN, h1, if_true]
theorem esN_sc (q : Nat → Bool) : ∀ (i : Nat) (ns : List Int), AV.sc.scAll q ((esN i ns).map fun e => e.snd.fst) = true
  | _, [] => rfl
  | i, n :: ns => by simp only [esN, List.map_cons, AV.sc.scAll, AV.sc, Bool.true_and, esN_sc q (i + 1) ns]
theorem esN_mapE {g : AV → AV} (h : g (cB true) = cB true) : ∀ (i : Nat) (ns : List Int), mapE g (esN i ns) = esN i ns
  | _, [] => rfl
  | i, n :: ns => by
    show (_, g (cB true), _) :: mapE g (esN (i + 1) ns) = _
    rw [h, esN_mapE h]; rfl
theorem esN_ren (f : Nat → Option Nat) (i : Nat) (ns : List Int) : List.map (fun e => (e.fst, ren f e.snd.fst, e.snd.snd)) (esN i ns) = esN i ns := esN_mapE (g := ren f) rfl i ns
theorem esN_scrub (f : Nat → Bool) (i : Nat) (ns : List Int) : List.map (fun e => (e.fst, scrub f e.snd.fst, e.snd.snd)) (esN i ns) = esN i ns := esN_mapE (g := scrub f) rfl i ns
attribute [go_sem] esN_sc esN_ren esN_scrub
abbrev usesH (ns : List Int) : List ABlk := [.box [.mp 1], .mp (esN 0 ns) ns.length, .box [.fn 34 [.ptr 0 0, .ptr 2 0]]]
set_option maxRecDepth 100000 in
set_option maxHeartbeats 4000000 in
theorem uses1_good (e : Expr) : ∀ ns, Good Tryz.prog 34 [e.av, .ptr 0 0, .ptr 2 0] (usesH ns) (.tup []) (usesH (e.uses ns)) := by
  induction e using Expr.ind with
  | h e ih =>
  intro ns
  refine Expr.lbound (e := e) (by simp) fun hl => ?_
  refine Good.of_vmQ TT 4000 Tryz.func34 rfl rfl ?_
  unfold Tryz.f34
  rw [Expr.uses_eq]
  cases ho : (e.op.toList == sAt.toList)
  case' false => simp only [go_sem, ho, Bool.false_eq_true, Option.getD_some, go_sem_proc]
  case' true => simp only [go_sem, ho, esN_put, Option.getD_some, go_sem_proc]; generalize addN e.v.i ns = ns
  all_goals
    refine Lp.at TT 4000 4 (Nat.le_of_ble_eq_true rfl) [false, false, false, false, false, true, false, false, false, false, false, false, false, false, false, false, true, true, true, true, true, true, true, true] (fun j : Nat => e.l.length - j) (fun j => j ≤ e.l.length) (fun j => [(16, cI j)]) (fun j => [(1, .mp (esN 0 (Expr.usesL (e.l.take j) ns)) (Expr.usesL (e.l.take j) ns).length)]) (0) (Nat.zero_le _) ?_ ?_
    · simp only [go_sem, Expr.usesL, Option.getD_some, go_sem_proc]
    · rintro j i1
      rcases Nat.lt_or_ge j e.l.length with hlt | hge
      · obtain ⟨x, hx, hm, ht, hd⟩ := getS hlt
        simp only [go_sem, hlt, hx, Option.getD_some, go_sem_proc]
        refine Cl.frame TT 4000 [0, 1, 2] (ih x hm (Expr.usesL (e.l.take j) ns)) rfl rfl (by simp only [go_sem, Option.getD_some, go_sem_proc]) (Nat.le_refl _) ?_
        simp only [go_sem, hlt, Option.getD_some, go_sem_proc]
        exact ⟨j + 1, by omega, by omega, Fit1.of_eq (congrArg cI (wrap_succ (by omega))), by rw [ht, Expr.usesL_append]; rfl⟩
      · have : j = e.l.length := by omega
        subst this
        simp only [go_sem, Nat.lt_irrefl, List.take_length, Option.getD_some, go_sem_proc]
theorem uses_H (ns : List Int) (h : ns.Nodup) (hi : ∀ n, n ∈ ns → I64 n) (hs : ns.length ≤ 1000000) : KeyMap (esN 0 ns) ns.length := by
  have hkeys : ∀ (i : Nat) (ns : List Int), keysOf (esN i ns) = ns := fun i ns => by
    induction ns generalizing i with
    | nil => rfl
    | cons n ns ih => show n :: keysOf _ = _; rw [ih]
  have hmem : ∀ (i : Nat) (ns : List Int) e, e ∈ esN i ns → (∃ n, n ∈ ns ∧ e.1 = .int .i64 n) ∧ i ≤ e.2.2 ∧ e.2.2 < i + ns.length := fun i ns => by
    induction ns generalizing i with
    | nil => intro e h; cases h
    | cons n ns ih =>
      intro e h
      rcases List.mem_cons.1 h with rfl | h
      · exact ⟨⟨n, by simp, rfl⟩, Nat.le_refl _, by simp⟩
      · obtain ⟨⟨m, h1, h2⟩, h3, h4⟩ := ih (i + 1) e h
        exact ⟨⟨m, by simp [h1], h2⟩, by omega, by simp only [List.length_cons]; omega⟩
  have hb : ∀ (i : Nat) (ns : List Int), (esN i ns).map (fun e => e.2.2) = List.range' i ns.length := fun i ns => by
    induction ns generalizing i with
    | nil => rfl
    | cons n ns ih => simp only [esN, List.map_cons, ih, List.length_cons, List.range'_succ]
  have hlen : (esN 0 ns).length = ns.length := by
    have := congrArg List.length (hb 0 ns)
    simpa using this
  refine ⟨fun e he => ?_, by rw [hkeys]; exact h, fun e he => by have := (hmem 0 ns e he).2.2; omega, by rw [hb]; exact List.nodup_range', by omega⟩
  obtain ⟨⟨n, h1, h2⟩, _⟩ := hmem 0 ns e he
  refine ⟨n, h2, ?_⟩
  have := hi n h1
  clear h2 hmem hb hkeys
  unfold I64 at this
  have q1 : IntKind.min .i64 = -9223372036854775808 := by decide
  have q2 : IntKind.max .i64 = 9223372036854775807 := by decide
  simp only [Lit.wf, q1, q2, Bool.and_eq_true, decide_eq_true_eq]
  omega
theorem esN_keys : ∀ (i : Nat) (ns : List Int), keysOf (esN i ns) = ns
  | _, [] => rfl
  | i, n :: ns => by show n :: keysOf _ = _; rw [esN_keys]
def Expr.places (e : Expr) : List Int := (e.uses []).mergeSort leI
set_option maxRecDepth 100000 in
theorem mkeys_good (ns : List Int) : Good Tryz.prog 36 [.mp 0] [.mp (esN 0 ns) ns.length] (.fn 75 [.ptr 1 0]) [.mp (esN 0 ns) ns.length, .box [.mp 0]] := by
  refine Good.of_vmA TT 4000 [1] Tryz.func36 rfl rfl ?_
  unfold Tryz.f36
  simp only [go_sem, Option.getD_some, go_sem_proc]
  rfl
set_option maxRecDepth 100000 in
set_option maxHeartbeats 4000000 in
theorem uses_good (e : Expr) (h : (e.uses []).Nodup) (hi : ∀ n, n ∈ e.uses [] → I64 n) (hs : (e.uses []).length ≤ 1000000) : Good Tryz.prog 15 [e.av] [] (sortedAV e.places) [] := by
  refine Good.of_vmQ TT 4000 Tryz.func15 rfl rfl ?_
  unfold Tryz.f15
  simp only [go_sem, Option.getD_some, go_sem_proc]
  refine Cl.frame TT 4000 [3, 2, 4] (uses1_good e []) rfl rfl (by simp only [go_sem, Option.getD_some, go_sem_proc]; rfl) (Nat.le_refl _) ?_
  simp only [go_sem, Option.getD_some, go_sem_proc]
  refine Cl.frame TT 4000 [2] (mkeys_good (e.uses [])) rfl rfl (by simp only [go_sem, Option.getD_some, go_sem_proc]) (Nat.le_of_ble_eq_true rfl) ?_
  simp only [go_sem, Option.getD_some, go_sem_proc]
  have K := good_sortedKeys (uses_H (e.uses []) h hi hs)
  rw [esN_keys] at K
  refine Cl.frame TT 4000 [5, 2] K rfl rfl (by simp only [go_sem, Option.getD_some, go_sem_proc]) (Nat.le_of_ble_eq_true rfl) ?_
  unfold Expr.places
  have hp : ∃ c, sortedAV (List.mergeSort (e.uses []) leI) = .c c := by
    cases List.mergeSort (e.uses []) leI with
    | nil => exact ⟨_, rfl⟩
    | cons a l => exact ⟨_, rfl⟩
  obtain ⟨c, hc⟩ := hp
  simp only [go_sem, hc, Option.getD_some, go_sem_proc]
end Go.Ev
end
section
set_option linter.all false
set_option linter.all false
open Go Go.Proofs
namespace Go.Ev
set_option maxRecDepth 100000 in
theorem clone_nil : Good Tryz.prog 37 [.c (.lst 7 false [])] [] (.c (.lst 7 false [])) [] := by
  refine Good.of_vmQ TT 4000 Tryz.func37 rfl rfl ?_
  unfold Tryz.f37
  simp only [go_sem, Option.getD_some, go_sem_proc]
  intro b
  cases b
  · simp only [go_sem, Option.getD_some, go_sem_proc]
  · simp only [go_sem, Option.getD_some, go_sem_proc]
set_option maxRecDepth 100000 in
theorem clone_cons (x : Expr) (l : List Expr) (h : l.length ≤ 1000000) : Good Tryz.prog 37 [.c (.lst 7 false ((x :: l).map Expr.cs))] [] (.sl 0 0 (x :: l).length) [.rows 7 26 ((x :: l).map Expr.cs)] := by
  refine Good.of_vmA TT 4000 [2] Tryz.func37 rfl rfl ?_
  unfold Tryz.f37
  simp only [go_sem, Expr.csL_all, Option.getD_some, go_sem_proc]
  exact ⟨by omega, by kernel_rfl, Le.of_eq (by rw [Nat.zero_add])⟩
mutual
def foldE (ev : Expr → Option Val) : Expr → Expr
  | .mk op v t n l => match (if ((Expr.mk op v t n l).uses []).isEmpty then ev (.mk op v t n l) else none) with
    | some v => litE v
    | none => .mk op v t n (foldL ev l)
def foldL (ev : Expr → Option Val) : List Expr → List Expr
  | [] => []
  | e :: l => foldE ev e :: foldL ev l
end
theorem foldL_map (ev : Expr → Option Val) : ∀ l, foldL ev l = l.map (foldE ev)
  | [] => rfl
  | e :: l => by simp [foldL, foldL_map ev l]
theorem foldE_eq (ev : Expr → Option Val) (e : Expr) : foldE ev e = match (if (e.uses []).isEmpty then ev e else none) with
    | some v => litE v
    | none => .mk e.op e.v e.table e.name (e.l.map (foldE ev)) := by
  cases e; rw [foldE, foldL_map]; rfl
def foldC (ev : Expr → Option Val) (x : Expr) : List CV := (foldE ev x).cs
structure FoldOK (ev : Expr → Option Val) (e : Expr) : Prop where
  nodup : (e.uses []).Nodup
  i64 : ∀ n, n ∈ e.uses [] → I64 n
  few : (e.uses []).length ≤ 1000000
  len : e.l.length ≤ 1000000
  ev : e.uses [] = [] → ∃ v f, EvalR [] e v f ∧ ev e = if f = 0 then some v else none
theorem places_nil {e : Expr} (h : (e.uses []).isEmpty = true) : sortedAV e.places = .c .nl := by
  rw [List.isEmpty_iff] at h
  unfold Expr.places; rw [h, List.mergeSort_nil]; rfl
theorem places_cons {e : Expr} (h : (e.uses []).isEmpty = false) : ∃ a l, sortedAV e.places = .c (.lst 1 false ([.int .i64 a] :: l)) := by
  have : e.places ≠ [] := fun h2 => by
    have h3 := List.length_mergeSort (le := leI) (e.uses [])
    unfold Expr.places at h2
    rw [h2] at h3
    have := List.eq_nil_of_length_eq_zero h3.symm
    rw [this] at h; cases h
  cases hp : e.places with
  | nil => exact absurd hp this
  | cons a l => exact ⟨a, _, rfl⟩
set_option maxRecDepth 100000 in
set_option maxHeartbeats 4000000 in
theorem fold_good (ev : Expr → Option Val) (e : Expr) : Expr.All (FoldOK ev) e → Good Tryz.prog 28 [e.av] [] (foldE ev e).av [] := by
  induction e using Expr.ind with
  | h e ih =>
  intro ha
  rw [Expr.All_iff] at ha
  obtain ⟨ho, hs⟩ := ha
  refine Good.of_vmQ TT 4000 Tryz.func28 rfl rfl ?_
  unfold Tryz.f28
  simp only [go_sem, Option.getD_some, go_sem_proc]
  refine Cl.pure TT 4000 (uses_good e ho.nodup ho.i64 ho.few) rfl (by cases e.places <;> rfl) ?_
  cases hu : (e.uses []).isEmpty
  · obtain ⟨a, l, hp⟩ := places_cons hu
    rw [hp]
    have hF : foldE ev e = .mk e.op e.v e.table e.name (e.l.map (foldE ev)) := by rw [foldE_eq, hu]; rfl
    rw [hF]
    have hn : (((l.length + 1 : Nat) : Int) == 0) = false := by simp; omega
    rcases hl : e.l with _ | ⟨y, l⟩
    · simp only [go_sem, hn, hl, Option.getD_some, go_sem_proc]
      (refine Cl.pure TT 4000 (clone_nil) rfl rfl ?_; simp only [go_sem, Option.getD_some, go_sem_proc])
      refine Lp.at TT 4000 2 (Nat.le_of_ble_eq_true rfl) [false, false, false, false, false, true, true, false, false, false, false, false, false, false, false, false, false, false, false, false, false, false, false, false, false, false, false, true, true, true, true, true, true, true, true, true, true, true, true] (fun _ : Unit => 0) (fun _ => True) (fun _ => [(27, cI 0)]) (fun _ => []) (()) (trivial) ?_ ?_
      · simp only [go_sem, Option.getD_some, go_sem_proc]
      · rintro _ _
        simp only [go_sem, hl, Option.getD_some, go_sem_proc]
    · simp only [go_sem, hn, hl, Option.getD_some, go_sem_proc]
      refine Cl.frame TT 4000 [] (clone_cons y l (by have := ho.len; rw [hl, List.length_cons] at this; omega)) rfl (by simp only [go_sem, Option.getD_some, go_sem_proc]) rfl (Nat.zero_le _) ?_
      simp only [go_sem, Option.getD_some, go_sem_proc]
      refine Lp.at TT 4000 3 (Nat.le_of_ble_eq_true rfl) [false, false, false, false, false, true, true, false, false, false, false, false, false, false, false, false, false, false, false, false, false, false, false, false, false, false, false, true, true, true, true, true, true, true, true, true, true, true, true] (fun j : Nat => l.length + 1 - j) (fun j => j ≤ l.length + 1) (fun j => [(27, cI j)]) (fun j => [(2, .rows 7 26 (mixR Expr.cs (foldC ev) (y :: l) j))]) (0) (Nat.zero_le _) ?_ ?_
      · simp only [go_sem, mixR_zero, Option.getD_some, go_sem_proc]
      · rintro j i1
        rcases Nat.lt_or_ge j (l.length + 1) with hlt | hge
        · obtain ⟨x, hx, hm, ht, hd⟩ := getS (l := y :: l) hlt
          have hw := wrap_succ (j := j) (by have := ho.len; rw [hl, List.length_cons] at this; omega)
          have hg := mixR_get (f := Expr.cs) (g := foldC ev) hx
          have hst := mixR_set (f := Expr.cs) (g := foldC ev) hx
          rw [Expr.cs_eq] at hg
          rw [foldC, Expr.cs_eq] at hst
          simp only [go_sem, hlt, hg, Nat.zero_add, Option.getD_some, go_sem_proc]
          refine Dr.ofC TT (by kernel_rfl) [(28, [x.av], (foldE ev x).av)] ⟨⟨ih x (hl ▸ hm) (hs x (hl ▸ hm)), rfl⟩, trivial⟩ ?_
          simp only [go_sem, hlt, hg, hst, Nat.zero_add, Option.getD_some, go_sem_proc]
          refine DEnd.of TT 4000 (memOK_of2 (by kernel_rfl)) ?_
          simp only [go_sem, hw, Option.getD_some, go_sem_proc]
          exact ⟨j + 1, by omega, by omega, Fit1.of_eq rfl, rfl⟩
        · have : j = l.length + 1 := by omega
          subst this
          have ha := mixR_all (f := Expr.cs) (g := foldC ev) (l := y :: l)
          rw [List.length_cons] at ha
          have hk : List.take l.length (List.map (foldC ev) l) = List.map Expr.cs (List.map (foldE ev) l) := by
            rw [List.take_of_length_le (by simp), List.map_map]; rfl
          simp only [go_sem, Nat.lt_irrefl, ha, Nat.zero_add, Nat.le_refl, hk, foldC, Option.getD_some, go_sem_proc]
  · rw [places_nil hu]
    obtain ⟨v, f, h1, h2⟩ := ho.ev (List.isEmpty_iff.1 hu)
    simp only [go_sem, Option.getD_some, go_sem_proc]
    refine Cl.pureL TT 4000 h1 rfl (.cons (Le.refl _) (.cons (Le.c (CLe.nl 3 false)) .nil)) rfl ?_
    simp only [go_sem, Option.getD_some, go_sem_proc]
    cases hf : (f == 0)
    · have hF : foldE ev e = .mk e.op e.v e.table e.name (e.l.map (foldE ev)) := by
        rw [foldE_eq, hu, h2, if_pos rfl, if_neg (by simpa using hf)]
      rw [hF]
      rcases hl : e.l with _ | ⟨y, l⟩
      · simp only [go_sem, hf, hl, Option.getD_some, go_sem_proc]
        (refine Cl.pure TT 4000 (clone_nil) rfl rfl ?_; simp only [go_sem, Option.getD_some, go_sem_proc])
        refine Lp.at TT 4000 3 (Nat.le_of_ble_eq_true rfl) [false, false, false, false, false, true, true, false, false, false, false, false, false, false, false, false, false, false, false, false, false, false, false, false, false, false, false, true, true, true, true, true, true, true, true, true, true, true, true] (fun _ : Unit => 0) (fun _ => True) (fun _ => [(27, cI 0)]) (fun _ => []) (()) (trivial) ?_ ?_
        · simp only [go_sem, Option.getD_some, go_sem_proc]
        · rintro _ _
          simp only [go_sem, hl, Option.getD_some, go_sem_proc]
      · simp only [go_sem, hf, hl, Option.getD_some, go_sem_proc]
        refine Cl.frame TT 4000 [] (clone_cons y l (by have := ho.len; rw [hl, List.length_cons] at this; omega)) rfl (by simp only [go_sem, Option.getD_some, go_sem_proc]) rfl (Nat.zero_le _) ?_
        simp only [go_sem, Option.getD_some, go_sem_proc]
        refine Lp.at TT 4000 4 (Nat.le_of_ble_eq_true rfl) [false, false, false, false, false, true, true, false, false, false, false, false, false, false, false, false, false, false, false, false, false, false, false, false, false, false, false, true, true, true, true, true, true, true, true, true, true, true, true] (fun j : Nat => l.length + 1 - j) (fun j => j ≤ l.length + 1) (fun j => [(27, cI j)]) (fun j => [(3, .rows 7 26 (mixR Expr.cs (foldC ev) (y :: l) j))]) (0) (Nat.zero_le _) ?_ ?_
        · simp only [go_sem, mixR_zero, Option.getD_some, go_sem_proc]
        · rintro j i1
          rcases Nat.lt_or_ge j (l.length + 1) with hlt | hge
          · obtain ⟨x, hx, hm, ht, hd⟩ := getS (l := y :: l) hlt
            have hw := wrap_succ (j := j) (by have := ho.len; rw [hl, List.length_cons] at this; omega)
            have hg := mixR_get (f := Expr.cs) (g := foldC ev) hx
            have hst := mixR_set (f := Expr.cs) (g := foldC ev) hx
            rw [Expr.cs_eq] at hg
            rw [foldC, Expr.cs_eq] at hst
            simp only [go_sem, hlt, hg, Nat.zero_add, Option.getD_some, go_sem_proc]
            refine Dr.ofC TT (by kernel_rfl) [(28, [x.av], (foldE ev x).av)] ⟨⟨ih x (hl ▸ hm) (hs x (hl ▸ hm)), rfl⟩, trivial⟩ ?_
            simp only [go_sem, hlt, hg, hst, Nat.zero_add, Option.getD_some, go_sem_proc]
            refine DEnd.of TT 4000 (memOK_of2 (by kernel_rfl)) ?_
            simp only [go_sem, hw, Option.getD_some, go_sem_proc]
            exact ⟨j + 1, by omega, by omega, Fit1.of_eq rfl, rfl⟩
          · have : j = l.length + 1 := by omega
            subst this
            have ha := mixR_all (f := Expr.cs) (g := foldC ev) (l := y :: l)
            rw [List.length_cons] at ha
            have hk : List.take l.length (List.map (foldC ev) l) = List.map Expr.cs (List.map (foldE ev) l) := by
              rw [List.take_of_length_le (by simp), List.map_map]; rfl
            simp only [go_sem, Nat.lt_irrefl, ha, Nat.zero_add, Nat.le_refl, hk, foldC, Option.getD_some, go_sem_proc]
    · have hF : foldE ev e = litE v := by
        rw [foldE_eq, hu, h2, if_pos rfl, if_pos (by simpa using hf)]
      rw [hF]
      simp only [go_sem, hf, Option.getD_some, go_sem_proc]
      exact nlE ..
end Go.Ev
end
section
set_option linter.all false
set_option linter.all false
open Go Go.Proofs
namespace Go.Ev
mutual
def moveE (by_ : Int) : Expr → Expr
  | .mk op v t n l => if op.toList == sAt.toList then .mk op ⟨v.k, IntKind.wrap .i64 (v.i + by_), v.s⟩ t n l else .mk op v t n (moveL by_ l)
def moveL (by_ : Int) : List Expr → List Expr
  | [] => []
  | e :: l => moveE by_ e :: moveL by_ l
end
theorem moveL_map (by_ : Int) : ∀ l, moveL by_ l = l.map (moveE by_)
  | [] => rfl
  | e :: l => by simp [moveL, moveL_map by_ l]
theorem moveE_eq (by_ : Int) (e : Expr) : moveE by_ e = if e.op.toList == sAt.toList then .mk e.op ⟨e.v.k, IntKind.wrap .i64 (e.v.i + by_), e.v.s⟩ e.table e.name e.l else .mk e.op e.v e.table e.name (e.l.map (moveE by_)) := by
  cases e; rw [moveE, moveL_map]; rfl
def moveC (by_ : Int) (x : Expr) : List CV := (moveE by_ x).cs
set_option maxRecDepth 100000 in
set_option maxHeartbeats 4000000 in
theorem move_good (by_ : Int) (e : Expr) : Expr.All (fun x => x.l.length ≤ 1000000) e → Good Tryz.prog 21 [e.av, cI by_] [] (moveE by_ e).av [] := by
  induction e using Expr.ind with
  | h e ih =>
  intro ha
  rw [Expr.All_iff] at ha
  obtain ⟨hlen, hs⟩ := ha
  refine Good.of_vmQ TT 4000 Tryz.func21 rfl rfl ?_
  unfold Tryz.f21
  rw [moveE_eq]
  cases ho : (e.op.toList == sAt.toList)
  · rcases hl : e.l with _ | ⟨y, l⟩
    · simp only [go_sem, ho, hl, Bool.false_eq_true, Option.getD_some, go_sem_proc]
      (refine Cl.pure TT 4000 (clone_nil) rfl rfl ?_; simp only [go_sem, Option.getD_some, go_sem_proc])
      refine Lp.at TT 4000 2 (Nat.le_of_ble_eq_true rfl) [false, false, false, false, false, true, true, false, false, false, false, false, false, false, false, false, false, false, false, false, false, false, false, false, false, true, true, true, true, true, true, true, true, true, true, true, true, true] (fun _ : Unit => 0) (fun _ => True) (fun _ => [(25, cI 0)]) (fun _ => []) (()) (trivial) ?_ ?_
      · simp only [go_sem, Option.getD_some, go_sem_proc]
      · rintro _ _
        simp only [go_sem, hl, Option.getD_some, go_sem_proc]
    · simp only [go_sem, ho, hl, Bool.false_eq_true, Option.getD_some, go_sem_proc]
      refine Cl.frame TT 4000 [] (clone_cons y l (by have := hlen; rw [hl, List.length_cons] at this; omega)) rfl (by simp only [go_sem, Option.getD_some, go_sem_proc]) rfl (Nat.zero_le _) ?_
      simp only [go_sem, Option.getD_some, go_sem_proc]
      refine Lp.at TT 4000 3 (Nat.le_of_ble_eq_true rfl) [false, false, false, false, false, true, true, false, false, false, false, false, false, false, false, false, false, false, false, false, false, false, false, false, false, true, true, true, true, true, true, true, true, true, true, true, true, true] (fun j : Nat => l.length + 1 - j) (fun j => j ≤ l.length + 1) (fun j => [(25, cI j)]) (fun j => [(2, .rows 7 26 (mixR Expr.cs (moveC by_) (y :: l) j))]) (0) (Nat.zero_le _) ?_ ?_
      · simp only [go_sem, mixR_zero, Option.getD_some, go_sem_proc]
      · rintro j i1
        rcases Nat.lt_or_ge j (l.length + 1) with hlt | hge
        · obtain ⟨x, hx, hm, ht, hd⟩ := getS (l := y :: l) hlt
          have hw := wrap_succ (j := j) (by have := hlen; rw [hl, List.length_cons] at this; omega)
          have hg := mixR_get (f := Expr.cs) (g := moveC by_) hx
          have hst := mixR_set (f := Expr.cs) (g := moveC by_) hx
          rw [Expr.cs_eq] at hg
          rw [moveC, Expr.cs_eq] at hst
          simp only [go_sem, hlt, hg, Nat.zero_add, Option.getD_some, go_sem_proc]
          refine Dr.ofC TT (by kernel_rfl) [(21, [x.av, cI by_], (moveE by_ x).av)] ⟨⟨ih x (hl ▸ hm) (hs x (hl ▸ hm)), rfl⟩, trivial⟩ ?_
          simp only [go_sem, hlt, hg, hst, Nat.zero_add, Option.getD_some, go_sem_proc]
          refine DEnd.of TT 4000 (memOK_of2 (by kernel_rfl)) ?_
          simp only [go_sem, hw, Option.getD_some, go_sem_proc]
          exact ⟨j + 1, by omega, by omega, Fit1.of_eq rfl, rfl⟩
        · have : j = l.length + 1 := by omega
          subst this
          have ha := mixR_all (f := Expr.cs) (g := moveC by_) (l := y :: l)
          rw [List.length_cons] at ha
          have hk : List.take l.length (List.map (moveC by_) l) = List.map Expr.cs (List.map (moveE by_) l) := by
            rw [List.take_of_length_le (by simp), List.map_map]; rfl
          simp only [go_sem, Nat.lt_irrefl, ha, Nat.zero_add, Nat.le_refl, hk, moveC, Option.getD_some, go_sem_proc]
  · simp only [go_sem, ho, Option.getD_some, go_sem_proc]
end Go.Ev
end
