/-  slices.Sorted over maps.Keys as a contract (s10). -/
import Derived.Test.YtnkpjoinejlfdaaGreatDoorKeys
import Derived.Test.YtnkpjoinejlfdaaGreatDoorEnter
import Derived.Lib.SlKeysI
open Go Go.Proofs Go.RowKit Go.Maps
namespace Go.Ev
def keyInt : CV → Int
  | .int _ n => n
  | _ => 0
def keysOf (es : List (CV × AV × Nat)) : List Int := es.map fun e => keyInt e.1
def sortedAV : List Int → AV
  | [] => .c .nl
  | l => .c (.lst 1 false (l.map fun n => [.int .i64 n]))
structure KeyMap (es : List (CV × AV × Nat)) (clk : Nat) : Prop where
  int : ∀ e, e ∈ es → ∃ n, e.1 = .int .i64 n ∧ (Lit.int .i64 n).wf = true
  keys : (keysOf es).Nodup
  born : ∀ e, e ∈ es → e.2.2 < clk
  apart : (es.map fun e => e.2.2).Nodup
  size : es.length ≤ 1000000

theorem keys_perm {H : Type} {P : Program} {k : TypeId} {R : Value → Option (DataW H × List MemPlace)} {w : World} {N : Nat → Prop} {ρ : Nat → Pl} {es : List (CV × AV × Nat)} {L : List MapEntry} (hE : EntsAt w N ρ es L) (hk : ∀ e, e ∈ es → ∃ n, e.1 = .int .i64 n)
    (hr : ∀ x, x ∈ L → ∀ n, x.key = .int .i64 n → (Go.WideElems.rg P k R x).1 = .int .i64 n) : (intKeys (.map ((L.map (Go.WideElems.rg P k R)).foldr DataW.insert []))).Perm (keysOf es) := by
  have h1 := (Go.WideShapes.sorted_perm (L.map (Go.WideElems.rg P k R))).map (fun p => intOf p.1)
  refine h1.trans (List.Perm.of_eq ?_)
  rw [List.map_map]
  apply List.ext_getElem
  · simp [keysOf, hE.1]
  · intro i h1 h2
    simp only [keysOf, List.length_map] at h1 h2
    obtain ⟨x, hx, hc, _⟩ := hE.2 i h2
    obtain ⟨n, hn⟩ := hk _ (List.getElem_mem h2)
    rw [hn] at hc
    have hxe : L[i] = x := by rw [List.getElem?_eq_getElem h1] at hx; exact Option.some.inj hx
    simp only [List.getElem_map, Function.comp, keysOf, hxe, hn, keyInt]
    have hkey : x.key = .int .i64 n := by
      generalize x.key = y at hc; cases hc; rfl
    rw [hr x (hxe ▸ List.getElem_mem h1) n hkey]; rfl

abbrev Rnil : Value → Option (DataW Unit × List MemPlace) := fun _ => some (.nil, [])
theorem key_read {x : MapEntry} {n : Int} (hx : x.key = .int .i64 n) (hw : (Lit.int .i64 n).wf = true) : Go.WideElems.rd Tryz.prog 3 Rnil x = some (.int .i64 n, .nil) := by
  have hk : keyOf Tryz.prog 3 x.key = some (.int .i64 n) := by
    rw [hx]
    have hu : Tryz.prog.underlying 3 = some (.int .i64) := by kernel_rfl
    simp [keyOf, hu, mapKey, hw]
  unfold Go.WideElems.rd
  rw [hk]; rfl
theorem good_sortedKeys {es : List (CV × AV × Nat)} {clk : Nat} (K : KeyMap es clk) : Good Tryz.prog 35 [.fn 75 [.ptr 0 0]] [.box [.mp 1], .mp es clk] (sortedAV ((keysOf es).mergeSort leI)) [.box [.mp 1], .mp es clk] := by
  intro w N ρ vs H hs hl hr
  obtain ⟨x0, rfl⟩ : ∃ x0, vs = [x0] := match vs, hl with | [x], _ => ⟨x, rfl⟩
  have r0 := hr 0 (by simp) (by simp)
  simp only [List.getElem_cons_zero] at r0
  cases r0 with
  | fn _ _ us hl2 hr2 =>
  obtain ⟨y, rfl⟩ : ∃ y, us = [y] := match us, hl2 with | [x], _ => ⟨x, rfl⟩
  have r1 := hr2 0 (by simp) (by simp)
  simp only [List.getElem_cons_zero] at r1
  cases r1
  obtain ⟨hp, hb, cells, t, fr, hh, hf, hsz, hc⟩ := H.own 0 (.box [.mp 1]) rfl
  obtain ⟨x, hx, hrx⟩ := hc 0 (by simp)
  simp only [List.getElem_cons_zero] at hrx
  cases hrx
  have hcells : cells = #[.map (some (ρ 1).b)] := by
    obtain ⟨l⟩ := cells
    match l, hsz with
    | [a], _ => simp at hx; rw [hx]
  obtain ⟨ho, A, hA, hE⟩ := mp_ents H (id := 1) (es := es) (clk := clk) rfl
  have hAl : A.size = es.length := by simpa using hE.1
  have hkeyAt : ∀ x, x ∈ A.toList → ∃ n, x.key = .int .i64 n ∧ (Lit.int .i64 n).wf = true := fun x hx => by
    obtain ⟨i, hi, rfl⟩ := List.getElem_of_mem hx
    have hi' : i < es.length := by rw [← hE.1]; exact hi
    obtain ⟨z, hz, hk, _⟩ := hE.2 i hi'
    rw [List.getElem?_eq_getElem hi] at hz; cases hz
    obtain ⟨n, hn, hw⟩ := K.int _ (List.getElem_mem hi')
    rw [hn] at hk
    generalize A.toList[i].key = y at hk
    cases hk; exact ⟨n, rfl, hw⟩
  have hst : MapKept.Stamped A clk := by
    refine ⟨fun x hx => ?_, ?_, ?_⟩
    · obtain ⟨i, hi, rfl⟩ := List.getElem_of_mem hx
      have hi' : i < es.length := by rw [← hE.1]; exact hi
      obtain ⟨z, hz, _, hbo, _⟩ := hE.2 i hi'
      rw [List.getElem?_eq_getElem hi] at hz; cases hz
      rw [hbo]; exact K.born _ (List.getElem_mem hi')
    · have e : A.toList.map (·.born) = es.map fun e => e.2.2 := by
        apply List.ext_getElem
        · simp [hAl]
        · intro i h1 h2
          simp only [List.length_map] at h1 h2
          obtain ⟨z, hz, _, hbo, _⟩ := hE.2 i h2
          rw [List.getElem?_eq_getElem h1] at hz; cases hz
          simpa using hbo
      rw [e]; exact K.apart
    · have e : A.toList.map (·.key) = (keysOf es).map encZ := by
        apply List.ext_getElem
        · simp [hAl, keysOf]
        · intro i h1 h2
          simp only [List.length_map, keysOf] at h1 h2
          obtain ⟨z, hz, hk, _⟩ := hE.2 i h2
          rw [List.getElem?_eq_getElem h1] at hz; cases hz
          obtain ⟨n, hn, _⟩ := K.int _ (List.getElem_mem h2)
          rw [hn] at hk
          simp only [List.getElem_map, keysOf, hn, keyInt]
          generalize A.toList[i].key = y at hk
          cases hk; rfl
      rw [e]
      exact List.Pairwise.map _ (fun a b hab h => hab (encZ_inj h)) K.keys
  have hown : w.ownsMap Tryz.prog 3 Rnil (ρ 1).b es.length (.map ((A.toList.map (Go.WideElems.rg Tryz.prog 3 Rnil)).foldr DataW.insert [])) :=
    ⟨A, clk, hA, ⟨by rw [hAl]; exact Nat.le_trans K.size (by decide), hst, fun x hx => by
      obtain ⟨n, h1, h2⟩ := hkeyAt x hx; exact ⟨_, key_read h1 h2⟩⟩, by omega, rfl⟩
  have hperm2 := keys_perm (P := Tryz.prog) (k := 3) (R := Rnil) hE (fun e he => by obtain ⟨n, h, _⟩ := K.int e he; exact ⟨n, h⟩) (fun x hx n hn => by
    obtain ⟨m, h1, h2⟩ := hkeyAt x hx
    rw [h1] at hn; cases hn
    unfold Go.WideElems.rg; rw [key_read h1 h2]; rfl)
  have hsize : Maps.size (DataW.map ((A.toList.map (Go.WideElems.rg Tryz.prog 3 Rnil)).foldr DataW.insert [])) = es.length := by
    show (List.foldr DataW.insert [] _).length = _
    rw [(Go.WideShapes.sorted_perm _).length_eq, List.length_map, Array.length_toList, hAl]
  have key := Tryz.sortedKeys (ρ 0).b (ρ 1).b es.length t fr _ Rnil w (by rw [hh, hcells]) hown (by rw [hsize]; exact Nat.le_trans K.size (by decide)) (by rw [hsize]; have := K.size; omega)
  refine .inl ⟨enters_of Tryz.func35 (by kernel_rfl) rfl _ _, ?_⟩
  rw [hb, Nat.add_zero] at *
  refine key.mono ?_
  rintro e w' ⟨v, ss, rfl, hss, hrow, hnil, hbel⟩
  refine ⟨v, rfl, ?_⟩
  have hsrt : ss.mergeSort leI = (keysOf es).mergeSort leI := mergeSort_of_perm_i (hss.trans hperm2)
  have hmade : Made w w' := ⟨hbel.os, hbel.tape, hbel.output, hbel.size, fun b hb => hbel.block b hb⟩
  obtain ⟨H', K'⟩ := H.made hmade
  rw [← hsrt]
  have hlen : (ss.mergeSort leI).length = ss.length := List.length_mergeSort ss
  rcases hrow.2 with ⟨rfl, hz⟩ | ⟨g, cap, cur, rfl, hge, hblk, hn, hcap, hcs, htake⟩
  · have : ss = [] := List.eq_nil_of_length_eq_zero hz
    subst this
    have e : sortedAV (([] : List Int).mergeSort leI) = .c .nl := by simp [sortedAV]
    rw [e]
    exact ⟨⟨N, ρ, H', .c .nl, K', rfl⟩⟩
  · have hne : ss.mergeSort leI ≠ [] := fun e => by
      have : ss = [] := List.eq_nil_of_length_eq_zero (by rw [← hlen, e]; rfl)
      have := hnil.2 this; cases this
    have e : sortedAV (ss.mergeSort leI) = .c (.lst 1 false ((ss.mergeSort leI).map fun n => [.int .i64 n])) := by
      generalize ss.mergeSort leI = l at hne
      cases l with
      | nil => exact absurd rfl hne
      | cons a l => rfl
    rw [e]
    have hst : ∀ b, N b → (N b ∨ b = g) ∧ w'.heap[b]? = w.heap[b]? := fun b hN => ⟨.inl hN, (K'.stay b hN).2⟩
    have hst' : ∀ b, N b → (N b ∨ b = g) ∧ w'.heap[b]? = w'.heap[b]? := fun b hN => ⟨.inl hN, rfl⟩
    have hgl : g < w'.heap.size := (Array.getElem?_eq_some_iff.1 hblk).1
    refine ⟨⟨fun b => N b ∨ b = g, ρ, ⟨?_, H'.inj, ?_, fun i k hk => ?_, H'.scope, H'.glob.mono hst'⟩, .c ?_, ⟨K'.os, K'.tape, K'.output, K'.size, K'.rho, hst, ?_, K'.rest, K'.new⟩, rfl⟩⟩
    · rintro b (hb | rfl)
      · exact H'.lt b hb
      · exact hgl
    · rintro i hi (hb | hb)
      · exact H'.apart i hi hb
      · have := own_lt H hi; omega
    · exact (H'.own i k hk).mono (q := born _) (H'.scope i _ hk) (fun _ _ _ => rfl) hst' fun _ _ => rfl
    · have hcell : ∀ j, j < ss.length → cur[j]? = some (encZ ((ss.mergeSort leI)[j]?.getD 0)) := fun j hj => by
        have h1 : (cur.toList.take (ss.length * 1))[j]? = ((ss.mergeSort leI).map encZ)[j]? := by rw [htake]
        rw [List.getElem?_take_of_lt (by omega), Array.getElem?_toList, List.getElem?_map, List.getElem?_eq_getElem (by omega)] at h1
        rw [h1, List.getElem?_eq_getElem (by omega)]; rfl
      have := RepC.lst (w := w') (N := fun b => N b ∨ b = g) 1 false ((ss.mergeSort leI).map fun n => [.int .i64 n]) (some ⟨g, 0, none⟩) cap (fun j _ => encZ ((ss.mergeSort leI)[j]?.getD 0)) (fun h => by cases h) (by simp [hlen]; exact hn) hcap
        (fun e he => by obtain ⟨n, _, rfl⟩ := List.mem_map.1 he; rfl) (fun j i hj hi => by
          have hj' : j < ss.length := by simpa [hlen] using hj
          refine ⟨g, 0, rfl, .inr rfl, ?_⟩
          have hi0 : i = 0 := by omega
          subst hi0
          rw [cell_of_block hblk]
          simpa using hcell j hj') (fun j i hj hi => by
          have hj' : j < (ss.mergeSort leI).length := by simpa using hj
          simp only [List.getElem_map] at hi ⊢
          have hi0 : i = 0 := by simpa using hi
          subst hi0
          rw [List.getElem?_eq_getElem hj']
          exact .int _ _)
      rw [List.length_map, hlen] at this
      exact this
    · rintro b (hb | rfl)
      · exact .inl hb
      · exact .inr (.inl hge)
end Go.Ev
