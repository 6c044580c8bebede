/-  The evaluator, second half: calls, code, regions that draw their order, reckoned runs, formulas. Over any program. -/
import Derived.Test.YtimjepimjfcalaaGreatDoorEvOne
import Derived.Deep.LoopGhost
import Derived.Laws.Externs
set_option linter.all false
/-  The evaluator, part P: calls: what a function's contract is, and how a caller uses it. -/
namespace Go.Ev
open Go.RowKit
variable [Globs]

/-- A call, whether the function has a body or the model's own row stands for it. -/
def CallOut (P : Program) (f : FuncId) (vs : Array Value) (w : World) (R : Value → World → Prop) : Prop :=
  ((callFunc f vs).run P w = .ok (.enter f vs) w ∧ Calls P f vs w fun e w' => ∃ v, e = .returned v ∧ R v w') ∨ ∃ v w', (callFunc f vs).run P w = .ok (.value v) w' ∧ R v w'
theorem CallOut.mono {P : Program} {f : FuncId} {vs : Array Value} {w : World} {R R' : Value → World → Prop} (h : CallOut P f vs w R) (hr : ∀ v w', R v w' → R' v w') : CallOut P f vs w R' := by
  rcases h with ⟨h1, h2⟩ | ⟨v, w', h1, h2⟩
  · exact .inl ⟨h1, h2.mono fun e w' ⟨v, he, h3⟩ => ⟨v, he, hr v w' h3⟩⟩
  · exact .inr ⟨v, w', h1, hr v w' h2⟩

/-- The contract of a call: with these arguments and these own blocks it returns r and leaves those. -/
def Good (P : Program) (f : FuncId) (args : List AV) (h : List ABlk) (r : AV) (h' : List ABlk) : Prop :=
  ∀ (w : World) (N : Nat → Prop) (ρ : Nat → Pl) (vs : List Value), HeapOK N h ρ w → AV.sc.scAll (born h) args = true → args.length = vs.length → (∀ (i : Nat) (h1 : i < args.length) (h2 : i < vs.length), RepA w N ρ args[i] vs[i]) →
    CallOut P f vs.toArray w fun v w' => OpOut N h ρ w r h' v w'
theorem Good.calls {P : Program} {f : FuncId} {args : List AV} {h : List ABlk} {r : AV} {h' : List ABlk} (G : Good P f args h r h') {w : World} {N : Nat → Prop} {ρ : Nat → Pl} {vs : List Value} (H : HeapOK N h ρ w) (hs : AV.sc.scAll (born h) args = true) (hl : args.length = vs.length) (hr : ∀ (i : Nat) (h1 : i < args.length) (h2 : i < vs.length), RepA w N ρ args[i] vs[i])
    (he : (callFunc f vs.toArray).run P w = .ok (.enter f vs.toArray) w) : Calls P f vs.toArray w fun e w' => ∃ v, e = .returned v ∧ OpOut N h ρ w r h' v w' := by
  rcases G w N ρ vs H hs hl hr with ⟨_, h2⟩ | ⟨v, w', h1, _⟩
  · exact h2
  · rw [he] at h1; cases h1

/-- It leads into no own block. -/
def AV.cl : AV → Bool
  | .c _ => true
  | .agg vs => clAll vs
  | .tup vs => clAll vs
  | _ => false
where
  clAll : List AV → Bool
    | [] => true
    | v :: vs => AV.cl v && clAll vs
def CV.flat : CV → Bool
  | .lst _ _ _ => false
  | .fn _ _ => false
  | _ => true
/-- It leads into no memory at all. -/
def AV.flat : AV → Bool
  | .c v => v.flat
  | .agg vs => flatAll vs
  | .tup vs => flatAll vs
  | _ => false
where
  flatAll : List AV → Bool
    | [] => true
    | v :: vs => AV.flat v && flatAll vs

theorem clAll_iff : ∀ {l : List AV}, AV.cl.clAll l = true ↔ ∀ x, x ∈ l → AV.cl x = true
  | [] => by simp [AV.cl.clAll]
  | x :: l => by simp [AV.cl.clAll, clAll_iff (l := l)]
theorem flatAll_iff : ∀ {l : List AV}, AV.flat.flatAll l = true ↔ ∀ x, x ∈ l → AV.flat x = true
  | [] => by simp [AV.flat.flatAll]
  | x :: l => by simp [AV.flat.flatAll, flatAll_iff (l := l)]

theorem RepA.cl {w : World} {N : Nat → Prop} {ρ ρ' : Nat → Pl} {v : AV} {x : Value} (h : RepA w N ρ v x) (hc : v.cl = true) : RepA w N ρ' v x := by
  induction h with
  | c h => exact .c h
  | agg us vs hl h ih => exact .agg us vs hl fun i a b => ih i a b (clAll_iff.1 hc _ (List.getElem_mem a))
  | tup us vs hl h ih => exact .tup us vs hl fun i a b => ih i a b (clAll_iff.1 hc _ (List.getElem_mem a))
  | ptr => cases hc
  | sn => cases hc
  | sl => cases hc
  | er => cases hc
  | rd => cases hc
  | fn => cases hc
  | und => cases hc
  | dead => cases hc
theorem RepA.flat {w w' : World} {N N' : Nat → Prop} {ρ ρ' : Nat → Pl} {v : AV} {x : Value} (h : RepA w N ρ v x) (hc : v.flat = true) : RepA w' N' ρ' v x := by
  induction h with
  | c h => refine .c ?_; cases h <;> first | (cases hc; done) | constructor
  | agg us vs hl h ih => exact .agg us vs hl fun i a b => ih i a b (flatAll_iff.1 hc _ (List.getElem_mem a))
  | tup us vs hl h ih => exact .tup us vs hl fun i a b => ih i a b (flatAll_iff.1 hc _ (List.getElem_mem a))
  | ptr => cases hc
  | sn => cases hc
  | sl => cases hc
  | er => cases hc
  | rd => cases hc
  | fn => cases hc
  | und => cases hc
  | dead => cases hc
theorem AV.cl_sc : ∀ (v : AV), v.cl = true → ∀ q, v.sc q = true
  | .c _, _, _ => rfl
  | .agg vs, h, q | .tup vs, h, q => all vs h q
  | .ptr _ _, h, _ | .sl _ _ _, h, _ | .er _ _ _, h, _ | .rd _, h, _ | .fn _ _, h, _ | .und, h, _ | .dead, h, _ => by cases h
where
  all : ∀ (vs : List AV), AV.cl.clAll vs = true → ∀ q, AV.sc.scAll q vs = true
    | [], _, _ => rfl
    | v :: vs, h, q => by
      simp only [AV.cl.clAll, Bool.and_eq_true] at h
      simp only [AV.sc.scAll, Bool.and_eq_true]
      exact ⟨AV.cl_sc v h.1 q, all vs h.2 q⟩

/-- A value as a function is handed it that has no own blocks: own rows as what they hold. -/
def snap (h : List ABlk) : AV → Option AV
  | .sl id off len => match h[id]? with
    | some (.rows sz _ xs) => if off + len ≤ xs.length then some (.c (.lst sz false ((xs.drop off).take len))) else none
    | _ => none
  | v => if v.cl then some v else none
def snapAll (h : List ABlk) : List AV → Option (List AV)
  | [] => some []
  | v :: vs => match snap h v, snapAll h vs with
    | some c, some cs => some (c :: cs)
    | _, _ => none

/-- The own rows among these are given up. -/
def kill (h : List ABlk) : List AV → List ABlk
  | [] => h
  | .sl id _ _ :: vs => kill (if id < h.length then h.set id .gone else h) vs
  | _ :: vs => kill h vs

/-- The blocks of the own rows among these. -/
def Lent (h : List ABlk) (ρ : Nat → Pl) (args : List AV) (b : Nat) : Prop := ∃ id off len, AV.sl id off len ∈ args ∧ owns h ρ id ∧ (ρ id).b = b

theorem own_lt {N : Nat → Prop} {h : List ABlk} {ρ : Nat → Pl} {w : World} (H : HeapOK N h ρ w) {i : Nat} (hi : owns h ρ i) : (ρ i).b < w.heap.size := by
  obtain ⟨⟨k', hk', h1, h2⟩, hph⟩ := hi
  have := H.own i k' hk'
  cases k' with
  | box cs => obtain ⟨_, _, vs, t, fr, hh, _⟩ := this; exact (Array.getElem?_eq_some_iff.1 hh).1
  | rows sz e xs =>
    obtain ⟨_, _, ⟨h, _⟩ | ⟨_, vs, fr, hh, _⟩⟩ := this
    · rw [h] at hph; cases hph
    · exact (Array.getElem?_eq_some_iff.1 hh).1
  | gone => simp at h1
  | unborn => simp at h2

theorem snap_rep {N : Nat → Prop} {h : List ABlk} {ρ ρ' : Nat → Pl} {w : World} (H : HeapOK N h ρ w) {args : List AV} {v c : AV} {x : Value} (hm : v ∈ args) (hr : RepA w N ρ v x) (hs : snap h v = some c) :
    RepA w (fun b => N b ∨ Lent h ρ args b) ρ' c x ∧ c.cl = true := by
  have hN : ∀ b, N b → (fun b => N b ∨ Lent h ρ args b) b ∧ w.heap[b]? = w.heap[b]? := fun b hb => ⟨.inl hb, rfl⟩
  unfold snap at hs
  split at hs
  · rename_i id off len
    split at hs
    · rename_i sz e xs hb
      split at hs
      · rename_i hle
        cases hs
        refine ⟨.c ?_, rfl⟩
        have hlen : ((xs.drop off).take len).length = len := by simp; omega
        obtain ⟨hsz, hszs, hcase⟩ := H.own id _ hb
        cases hr with
        | sn _ hph =>
          rcases hcase with ⟨_, h0⟩ | ⟨h0, _⟩
          · subst h0
            have := RepC.lst (w := w) (N := fun b => N b ∨ Lent h ρ args b) sz false ((([] : List (List CV)).drop 0).take 0) none 0 (fun _ _ => undef) (fun h => by cases h) (by simp) (by omega) (by simp) (fun j i hj => absurd hj (by simp)) (fun j i hj => absurd hj (by simp))
            simpa using this
          · rw [hph] at h0; cases h0
        | sl _ _ _ cap o hph ho h1 h2 hm' =>
          rcases hcase with ⟨h0, _⟩ | ⟨_, cur, fr, hh, hf, hsize, hrange, hcell⟩
          · rw [hph] at h0; cases h0
          · have hown : owns h ρ id := ⟨⟨_, hb, by simp, by simp⟩, hph⟩
            have key := RepC.lst (w := w) (N := fun b => N b ∨ Lent h ρ args b) sz false ((xs.drop off).take len) (some ⟨(ρ id).b, o, none⟩) cap (fun j i => (cur[(ρ id).base + ((off + j) * sz + i)]?).getD undef) (fun h => by cases h) (by rw [hlen]; exact h1) hm'
              (fun e he => hszs e (List.mem_of_mem_drop (List.mem_of_mem_take he))) (fun j i hj hi => by
                rw [hlen] at hj
                have hjx : off + j < xs.length := by omega
                obtain ⟨y, hy, _⟩ := hcell (off + j) i hjx (by rw [hszs _ (List.getElem_mem _)]; exact hi)
                refine ⟨(ρ id).b, o, rfl, .inr ⟨id, off, len, hm, hown, rfl⟩, ?_⟩
                rw [cell_of_block hh, ho (by omega), hsz]
                have e2 : (ρ id).base + off * sz + (j * sz + i) = (ρ id).base + ((off + j) * sz + i) := by rw [Nat.add_mul]; omega
                rw [e2, hy]; rfl)
              (fun j i hj hi => by
                rw [hlen] at hj
                have hjx : off + j < xs.length := by omega
                have e1 : ((xs.drop off).take len)[j]'(by rw [hlen]; exact hj) = xs[off + j] := by simp
                obtain ⟨y, hy, hry⟩ := hcell (off + j) i hjx (by rw [← e1]; exact hi)
                simp only [hy, Option.getD_some]
                have := hry.mono hN
                simpa [e1] using this)
            rw [hlen] at key
            exact key
      · cases hs
    · cases hs
  · split at hs
    · rename_i hcl
      cases hs
      exact ⟨(hr.mono (q := fun _ => true) (AV.cl_sc _ hcl _) hN (fun _ _ => rfl) : RepA w (fun b => N b ∨ Lent h ρ args b) ρ _ x).cl hcl, hcl⟩
    · cases hs

theorem snapAll_rep {N : Nat → Prop} {h : List ABlk} {ρ ρ' : Nat → Pl} {w : World} (H : HeapOK N h ρ w) {args : List AV} : ∀ (l cs : List AV) (vs : List Value), (∀ v, v ∈ l → v ∈ args) → l.length = vs.length → (∀ (i : Nat) (h1 : i < l.length) (h2 : i < vs.length), RepA w N ρ l[i] vs[i]) → snapAll h l = some cs →
    cs.length = vs.length ∧ (∀ (i : Nat) (h1 : i < cs.length) (h2 : i < vs.length), RepA w (fun b => N b ∨ Lent h ρ args b) ρ' cs[i] vs[i]) ∧ ∀ q, AV.sc.scAll q cs = true
  | [], cs, vs, _, hl, _, hs => by
    simp [snapAll] at hs; subst hs
    exact ⟨hl, fun i h1 => absurd h1 (by simp), fun _ => rfl⟩
  | v :: l, cs, [], _, hl, _, _ => by simp at hl
  | v :: l, cs, x :: vs, hm, hl, hr, hs => by
    unfold snapAll at hs
    split at hs
    · rename_i c cs' hc hcs
      cases hs
      obtain ⟨h1, h2, h3⟩ := snapAll_rep H (ρ' := ρ') l cs' vs (fun v hv => hm v (by simp [hv])) (by simpa using hl) (fun i a b => hr (i + 1) (by simp; omega) (by simp; omega)) hcs
      obtain ⟨g1, g2⟩ := snap_rep (ρ' := ρ') H (hm v (by simp)) (hr 0 (by simp) (by simp)) hc
      refine ⟨by simp [h1], fun i a b => ?_, fun q => by simp only [AV.sc.scAll, Bool.and_eq_true]; exact ⟨AV.cl_sc _ g2 q, h3 q⟩⟩
      cases i with
      | zero => exact g1
      | succ i => exact h2 i (by simpa using a) (by simpa using b)
    · cases hs

theorem HeapOK.made {N : Nat → Prop} {h : List ABlk} {ρ : Nat → Pl} {w w' : World} (H : HeapOK N h ρ w) (hm : Made w w') : HeapOK N h ρ w' ∧ Kept N h ρ w N h ρ w' := by
  have hst : ∀ b, N b → N b ∧ w'.heap[b]? = w.heap[b]? := fun b hN => ⟨hN, hm.old b (H.lt b hN)⟩
  refine ⟨⟨fun b hN => Nat.lt_of_lt_of_le (H.lt b hN) hm.size, H.inj, H.apart, fun i k hk => ?_, H.scope, H.glob.mono hst⟩, ?_⟩
  · exact (H.own i k hk).mono (q := born h) (fun cs hcs => by subst hcs; exact H.scope i cs hk) (fun h1 h2 h3 => hm.old _ (own_lt H ⟨⟨k, hk, h1, h2⟩, h3⟩)) hst (fun _ _ => rfl)
  · exact ⟨hm.os, hm.tape, hm.output, hm.size, fun i hi => ⟨hi, rfl⟩, hst, fun b hb => .inl hb, fun b hb _ => hm.old b hb, fun i hi => .inr ⟨i, hi, rfl⟩⟩

theorem kill_length : ∀ (args : List AV) (h : List ABlk), (kill h args).length = h.length
  | [], _ => rfl
  | v :: vs, h => by
    cases v <;> simp only [kill] <;> rw [kill_length vs]
    split <;> simp
theorem kill_get : ∀ (args : List AV) (h : List ABlk) (i : Nat), (kill h args)[i]? = h[i]? ∨ (i < h.length ∧ (kill h args)[i]? = some .gone)
  | [], _, _ => .inl rfl
  | v :: vs, h, i => by
    cases v with
    | sl id off len =>
      simp only [kill]
      have hlen : (if id < h.length then h.set id .gone else h).length = h.length := by split <;> simp
      rcases kill_get vs (if id < h.length then h.set id .gone else h) i with h1 | ⟨h1, h2⟩
      · rw [h1]
        split
        · rename_i hlt
          by_cases e : i = id
          · subst e; right; exact ⟨hlt, by simp [hlt]⟩
          · left; rw [List.getElem?_set_ne (Ne.symm e)]
        · exact .inl rfl
      · rw [hlen] at h1; exact .inr ⟨h1, h2⟩
    | _ => simp only [kill]; exact kill_get vs h i
theorem kill_lent : ∀ (args : List AV) (h : List ABlk) (id off len : Nat), AV.sl id off len ∈ args → id < h.length → (kill h args)[id]? = some .gone
  | [], _, _, _, _, hm, _ => by cases hm
  | v :: vs, h, id, off, len, hm, hlt => by
    rcases List.mem_cons.1 hm with e | e
    · subst e
      simp only [kill, if_pos hlt]
      rcases kill_get vs (h.set id .gone) id with h1 | ⟨_, h1⟩
      · rw [h1]; simp [hlt]
      · exact h1
    · clear hm
      have step : ∀ h2 : List ABlk, h2.length = h.length → (kill h2 vs)[id]? = some .gone := fun h2 hl => kill_lent vs h2 id off len e (by omega)
      cases v <;> simp only [kill] <;> apply step
      all_goals first | rfl | (split <;> simp)

theorem born_kill {h : List ABlk} {args : List AV} {i : Nat} (hb : born h i = true) : born (kill h args) i = true := by
  unfold born at *
  rcases kill_get args h i with h1 | ⟨_, h1⟩
  · rw [h1]; exact hb
  · rw [h1]

/-- What a call of a function that has no own blocks leaves the caller. -/
def after (h : List ABlk) (args : List AV) (r : AV) : List ABlk := if r.flat then h else kill h args

/-- A call of such a function. -/
theorem Good.pure {P : Program} {f : FuncId} {args cs : List AV} {r : AV} {h : List ABlk} (G : Good P f cs [] r []) (hs : snapAll h args = some cs) (hr : r.cl = true) : Good P f args h r (after h args r) := by
  intro w N ρ vs H hsc hl hrep
  let N1 : Nat → Prop := fun b => N b ∨ Lent h ρ args b
  have hN1 : ∀ b, N1 b → b < w.heap.size := fun b hb => by
    rcases hb with hb | ⟨id, off, len, _, ho, rfl⟩
    · exact H.lt b hb
    · exact own_lt H ho
  obtain ⟨g1, g2, g3⟩ := snapAll_rep (ρ' := ρ) H (args := args) args cs vs (fun _ h => h) hl hrep hs
  have H0 : HeapOK N1 [] ρ w := ⟨hN1, fun i j hi => by obtain ⟨⟨k, hk, _⟩, _⟩ := hi; simp at hk, fun i hi => by obtain ⟨⟨k, hk, _⟩, _⟩ := hi; simp at hk, fun i k hk => by simp at hk, fun i cs hk => by simp at hk, H.glob.mono fun b hb => ⟨.inl hb, rfl⟩⟩
  refine (G w N1 ρ vs H0 (g3 _) g1 g2).mono ?_
  rintro v w' ⟨N2, ρ2, H2, hrv, K, _⟩
  have hnone : ∀ i, ¬ owns [] ρ i := fun i hi => by obtain ⟨⟨k, hk, _⟩, _⟩ := hi; simp at hk
  have hm : Made w w' := ⟨K.os, K.tape, K.output, K.size, fun b hb => K.rest b hb (fun i hi => absurd hi (hnone i))⟩
  unfold after
  split
  · rename_i hfl
    obtain ⟨H', K'⟩ := H.made hm
    exact ⟨⟨N, ρ, H', hrv.flat hfl, K', AV.cl_sc _ hr _⟩⟩
  · have hst : ∀ b, N b → N2 b ∧ w'.heap[b]? = w.heap[b]? := fun b hb => K.stay b (.inl hb)
    have hcase : ∀ i, owns (kill h args) ρ i → owns h ρ i ∧ ∀ off len, AV.sl i off len ∉ args := fun i hi => by
      obtain ⟨⟨k, hk, h1, h2⟩, hph⟩ := hi
      rcases kill_get args h i with h3 | ⟨_, h3⟩
      · rw [h3] at hk
        refine ⟨⟨⟨k, hk, h1, h2⟩, hph⟩, fun off len hm => ?_⟩
        have := kill_lent args h i off len hm (List.getElem?_eq_some_iff.1 hk).1
        rw [h3, hk] at this; cases this; simp at h1
      · rw [h3] at hk; cases hk; simp at h1
    refine ⟨⟨N2, ρ, ⟨H2.lt, fun i j hi hj => H.inj i j (hcase i hi).1 (hcase j hj).1, fun i hi hN => ?_, fun i k hk => ?_, fun i c hk => ?_, H2.glob⟩, hrv.cl hr, ?_, AV.cl_sc _ hr _⟩⟩
    · rcases K.from_ _ hN with (h1 | ⟨id, off, len, hmem, ho, he⟩) | h1 | ⟨j, hj, _⟩
      · exact H.apart i (hcase i hi).1 h1
      · have := H.inj id i ho (hcase i hi).1 he
        subst this
        exact (hcase id hi).2 off len hmem
      · have := own_lt H (hcase i hi).1; omega
      · exact hnone j hj
    · rcases kill_get args h i with h3 | ⟨_, h3⟩
      · rw [h3] at hk
        exact (H.own i k hk).mono (q := born h) (fun cs hcs => by subst hcs; exact H.scope i cs hk) (fun h1 h2 h4 => hm.old _ (own_lt H ⟨⟨k, hk, h1, h2⟩, h4⟩)) hst (fun _ _ => rfl)
      · rw [h3] at hk; cases hk; trivial
    · rcases kill_get args h i with h3 | ⟨_, h3⟩
      · rw [h3] at hk
        exact AV.sc_mono.all (fun i hi => born_kill hi) c (H.scope i c hk)
      · rw [h3] at hk; cases hk
    · exact ⟨K.os, K.tape, K.output, K.size, fun i hi => ⟨born_kill hi, rfl⟩, hst, fun b hb => by
        rcases K.from_ b hb with (h1 | ⟨id, off, len, hmem, ho, he⟩) | h1 | ⟨j, hj, _⟩
        · exact .inl h1
        · exact .inr (.inr ⟨id, ho, he⟩)
        · exact .inr (.inl h1)
        · exact absurd hj (hnone j), fun b hb _ => hm.old b hb, fun i hi => .inr ⟨i, (hcase i hi).1, rfl⟩⟩
end Go.Ev

/-  The evaluator, part Q: code: what runs from a state of plain values to another. -/
namespace Go.Ev
open Go.RowKit
variable [Globs]

/-- The slots, and the own blocks. -/
structure St where
  t : List AV
  h : List ABlk

def setD (t : List AV) (d : Option Tmp) (v : AV) : List AV := match d with
  | some d => t.set d v
  | none => t

/-- A state in the past, that what is now is held against. -/
structure Ent where
  N : Nat → Prop
  h : List ABlk
  ρ : Nat → Pl
  w : World

structure SimAt (X : Ent) (s : St) (a : Act) (w : World) (N : Nat → Prop) (ρ : Nat → Pl) : Prop where
  heap : HeapOK N s.h ρ w
  slots : Slots w N ρ s.t a.tmps
  sc : AV.sc.scAll (born s.h) s.t = true
  kept : Kept X.N X.h X.ρ X.w N s.h ρ w
  defers : a.defers = []
def Sim (X : Ent) (s : St) (a : Act) (w : World) : Prop := ∃ N ρ, SimAt X s a w N ρ

def lift (X : Ent) (Q : Exit → St → Prop) : Exit → Act → World → Prop := fun e a w => ∃ s, Sim X s a w ∧ Q e s

/-- Run from s the code c comes to an end of Q. -/
def Run (P : Program) (n : Nat) (c : Code) (Q : Exit → St → Prop) (s : St) : Prop := ∀ X a w, X.h.length ≤ n → Sim X s a w → c.wp P (lift X Q) a w

def thenS (K : St → Prop) (Q : Exit → St → Prop) : Exit → St → Prop
  | .normal, s => K s
  | e, s => Q e s
def inBlockS (id : Nat) (Q : Exit → St → Prop) : Exit → St → Prop
  | .exit id', s => if id' = id then Q .normal s else Q (.exit id') s
  | e, s => Q e s

section
variable {P : Program} {n : Nat} {Q : Exit → St → Prop} {s : St}

theorem Run.mono {c : Code} {Q' : Exit → St → Prop} (h : Run P n c Q s) (hq : ∀ e s, Q e s → Q' e s) : Run P n c Q' s :=
  fun X a w hX hs => wp_mono (h X a w hX hs) fun e _ _ ⟨s', h1, h2⟩ => ⟨s', h1, hq e s' h2⟩
theorem Run.skip (h : Q .normal s) : Run P n .skip Q s := fun _ _ _ _ hs => wp_skip ⟨s, hs, h⟩
theorem Run.label {l : Nat} (h : Q .normal s) : Run P n (.label l) Q s := fun _ _ _ _ hs => wp_label ⟨s, hs, h⟩
theorem Run.exit {id : Nat} (h : Q (.exit id) s) : Run P n (.exit id) Q s := fun _ _ _ _ hs => wp_exit ⟨s, hs, h⟩
theorem Run.goto {id : Nat} (h : Q (.goto id) s) : Run P n (.goto id) Q s := fun _ _ _ _ hs => wp_goto ⟨s, hs, h⟩
theorem Run.ret (h : Q .ret s) : Run P n .ret Q s := fun _ _ _ _ hs => wp_ret ⟨s, hs, h⟩

theorem Run.seq {x y : Code} (h : Run P n x (thenS (Run P n y Q) Q) s) : Run P n (.seq x y) Q s := fun X a w hX hs => by
  refine wp_seq (wp_mono (h X a w hX hs) ?_)
  rintro e a' w' ⟨s', h1, h2⟩
  cases e with
  | normal => exact h2 X a' w' hX h1
  | _ => exact ⟨s', h1, h2⟩
theorem Run.block {id : Nat} {c : Code} (h : Run P n c (inBlockS id Q) s) : Run P n (.block id c) Q s := fun X a w hX hs => by
  refine wp_block (wp_mono (h X a w hX hs) ?_)
  rintro e a' w' ⟨s', h1, h2⟩
  cases e with
  | exit id' =>
    simp only [inBlockS] at h2
    simp only [Exit.inBlock]
    split <;> rename_i he
    · rw [if_pos he] at h2; exact ⟨s', h1, h2⟩
    · rw [if_neg he] at h2; exact ⟨s', h1, h2⟩
  | _ => exact ⟨s', h1, h2⟩
theorem Run.loop {c : Code} (I : Nat → St → Prop) (m : Nat) (h0 : I m s) (round : ∀ m s, I m s → Run P n c (thenS (fun s' => ∃ k, k < m ∧ I k s') Q) s) : Run P n (.loop c) Q s := fun X a w hX hs => by
  refine wp_loop_ghost (fun m a w => ∃ s, Sim X s a w ∧ I m s) m ⟨s, hs, h0⟩ ?_
  rintro m a w ⟨s1, hs1, hI⟩
  refine wp_mono (round m s1 hI X a w hX hs1) ?_
  rintro e a' w' ⟨s', h1, h2⟩
  cases e with
  | normal => obtain ⟨k, hk, hI'⟩ := h2; exact ⟨k, hk, s', h1, hI'⟩
  | _ => exact ⟨s', h1, h2⟩
theorem Sim.cond {X : Ent} {a : Act} {w : World} {c : Operand} {b : Bool} (hs : Sim X s a w) (h : opd s.t c = some (.c (.bool b))) : a.eval c = .bool b := by
  obtain ⟨N, ρ, S⟩ := hs
  have := opd_rep S.slots h
  generalize a.eval c = x at this
  cases this with
  | c h => cases h; rfl
theorem Run.cond {c : Operand} {x y : Code} {b : Bool} (hc : opd s.t c = some (.c (.bool b))) (h : Run P n (if b then x else y) Q s) : Run P n (.cond c x y) Q s :=
  fun X a w hX hs => wp_cond (hs.cond hc) (h X a w hX hs)
theorem Run.cond_split {c : Operand} {x y : Code} {b : Bool} (hc : opd s.t c = some (.c (.bool b))) (ht : b = true → Run P n x Q s) (hf : b = false → Run P n y Q s) : Run P n (.cond c x y) Q s := by
  cases b
  · exact Run.cond hc (hf rfl)
  · exact Run.cond hc (ht rfl)

/-- Operations, run one by one. -/
def RunOps (P : Program) (n : Nat) (ops : Array Oper) (l : List Nat) (Q : Exit → St → Prop) (s : St) : Prop := ∀ X a w, X.h.length ≤ n → Sim X s a w → wpOps P ops (lift X Q) l a w

theorem Run.region {id : Nat} {ops : Array Oper} (h : RunOps P n ops (List.range ops.size) Q s) : Run P n (.region id ops false) Q s :=
  fun X a w hX hs => wp_region (h X a w hX hs)
theorem RunOps.nil {ops : Array Oper} (h : Q .normal s) : RunOps P n ops [] Q s := fun _ _ _ _ hs => ⟨s, hs, h⟩

/-- Does a guard let it? -/
def wantedA (ops : Array Oper) (t : List AV) (o : Oper) : Option Bool := match o.guard with
  | none => some true
  | some (j, want) => match ((ops[j]?).bind (·.dst)).bind (t[·]?) with
    | some (.c (.bool b)) => some (b == want)
    | some .und => some false
    | _ => none
theorem wantedA_sound {X : Ent} {a : Act} {w : World} {ops : Array Oper} {o : Oper} {b : Bool} (hs : Sim X s a w) (h : wantedA ops s.t o = some b) : Region.wanted o (yielded ops a.tmps) = b := by
  obtain ⟨N, ρ, S⟩ := hs
  unfold wantedA at h
  unfold Region.wanted
  split at h
  · rename_i hg; rw [hg]; cases h; rfl
  · rename_i j want hg
    rw [hg]
    unfold yielded
    cases hd : (ops[j]?).bind (·.dst) with
    | none => rw [hd] at h; simp at h
    | some d =>
      rw [hd] at h
      simp only [Option.bind_some] at h ⊢
      split at h
      · rename_i v hv
        obtain ⟨x, hx, hr⟩ := S.slots.rep d _ hv
        cases hr with
        | c hr =>
          cases hr
          cases h
          simp only [hd, Option.bind_some, hx]
          cases v <;> cases want <;> rfl
      · rename_i hv
        obtain ⟨x, hx, hr⟩ := S.slots.rep d _ hv
        cases hr
        cases h
        simp only [hd, Option.bind_some, hx]
        cases want <;> rfl
      · cases h

theorem Slots.put {w : World} {N : Nat → Prop} {ρ : Nat → Pl} {t : List AV} {a : Act} (S : Slots w N ρ t a.tmps) {v : AV} {x : Value} (hr : RepA w N ρ v x) (d : Option Tmp) : Slots w N ρ (setD t d v) (a.put d x).tmps := by
  cases d with
  | none => exact S
  | some d =>
    refine ⟨by simp [setD, Act.put, S.len], fun i u hu => ?_, S.glob⟩
    simp only [setD] at hu
    simp only [Act.put]
    by_cases e : d = i
    · subst e
      rw [List.getElem?_set_self'] at hu
      cases hd : t[d]? with
      | none => rw [hd] at hu; simp at hu
      | some u0 =>
        rw [hd] at hu; simp at hu; subst hu
        have : d < a.tmps.size := by rw [← S.len]; exact (List.getElem?_eq_some_iff.1 hd).1
        exact ⟨x, by simp [this], hr⟩
    · rw [List.getElem?_set_ne e] at hu
      obtain ⟨y, hy, hry⟩ := S.rep i u hu
      exact ⟨y, by rw [Array.getElem?_setIfInBounds_ne e]; exact hy, hry⟩
theorem sc_setD {q : Nat → Bool} {t : List AV} {d : Option Tmp} {v : AV} (h : AV.sc.scAll q t = true) (hv : v.sc q = true) : AV.sc.scAll q (setD t d v) = true := by
  cases d with
  | none => exact h
  | some d =>
    refine scAll_iff.2 fun x hx => ?_
    rcases List.mem_or_eq_of_mem_set hx with h1 | rfl
    · exact scAll_iff.1 h x h1
    · exact hv
theorem put_defers (a : Act) (d : Option Tmp) (x : Value) : (a.put d x).defers = a.defers := by cases d <;> rfl

theorem Slots.mono {w w' : World} {N N' : Nat → Prop} {ρ ρ' : Nat → Pl} {q : Nat → Bool} {t : List AV} {tmps : Array Value} (S : Slots w N ρ t tmps) (ht : AV.sc.scAll q t = true) (hk : ∀ b, N b → N' b ∧ w'.heap[b]? = w.heap[b]?) (hr : ∀ i, q i = true → ρ' i = ρ i) : Slots w' N' ρ' t tmps :=
  ⟨S.len, fun i v hv => by
    obtain ⟨x, hx, hrep⟩ := S.rep i v hv
    exact ⟨x, hx, hrep.mono (scAll_iff.1 ht _ (List.mem_of_getElem? hv)) hk hr⟩, S.glob.mono hk⟩

/-- A state after an operation's value came. -/
theorem Sim.put {X : Ent} {a : Act} {w w' : World} {N : Nat → Prop} {ρ : Nat → Pl} (S : SimAt X s a w N ρ) {v : AV} {h' : List ABlk} {x : Value} (ho : OpOut N s.h ρ w v h' x w') (d : Option Tmp) : Sim X ⟨setD s.t d v, h'⟩ (a.put d x) w' := by
  obtain ⟨⟨N', ρ', H', hr, K, hsc⟩⟩ := ho
  have S2 : Slots w' N' ρ' s.t a.tmps := S.slots.mono S.sc K.stay fun i hi => (K.rho i hi).2
  exact ⟨N', ρ', H', S2.put hr d, sc_setD (scAll_iff.2 fun y hy => AV.sc_mono (fun i hi => (K.rho i hi).1) y (scAll_iff.1 S.sc y hy)) hsc, S.kept.trans K, by rw [put_defers]; exact S.defers⟩

theorem RunOps.none {ops : Array Oper} {i : Nat} {l : List Nat} (hi : ops[i]? = none) (h : RunOps P n ops l Q s) : RunOps P n ops (i :: l) Q s := fun X a w hX hs => by
  rw [wpOps_cons]; unfold wpOp; rw [hi]; exact h X a w hX hs

theorem RunOps.skip {ops : Array Oper} {i : Nat} {l : List Nat} {o : Oper} (hi : ops[i]? = some o) (hw : wantedA ops s.t o = some false) (h : RunOps P n ops l Q ⟨setD s.t o.dst .und, s.h⟩) : RunOps P n ops (i :: l) Q s := fun X a w hX hs => by
  rw [wpOps_cons]; unfold wpOp; rw [hi]
  simp only [wantedA_sound hs hw]
  obtain ⟨N, ρ, S⟩ := hs
  exact h X _ w hX (Sim.put S (OpOut.quiet S.heap .und rfl) o.dst)

theorem RunOps.op {E : Env} (T : TabOK P E) {ops : Array Oper} {i : Nat} {l : List Nat} {o : Oper} {v : AV} {U : List (Nat × ABlk)} (hi : ops[i]? = some o) (hw : wantedA ops s.t o = some true) (hv : evOp E o.op o.type s.t s.h s.h.length = some (v, U)) (h : RunOps P n ops l Q ⟨setD s.t o.dst v, app s.h U⟩) : RunOps P n ops (i :: l) Q s := fun X a w hX hs => by
  rw [wpOps_cons]; unfold wpOp; rw [hi]
  simp only [wantedA_sound hs hw, if_true]
  obtain ⟨N, ρ, S⟩ := hs
  refine .inl ?_
  unfold Oper.wp
  obtain ⟨nx, x, w', hr, hnx, ho⟩ := evOp_sound T S.heap S.slots S.sc (.inl rfl) hv
  rw [hr]
  rcases hnx with rfl | ⟨rfl, rfl⟩
  · exact h X _ w' hX (Sim.put S ho o.dst)
  · exact h X _ w' hX (Sim.put S ho o.dst)

/-- The function that a value is, and what it holds. -/
def fnOf (v : AV) : Option (FuncId × List AV) := match v with
  | .c (.fn f caps) => some (f, caps.map .c)
  | .fn f caps => some (f, caps)
  | _ => none

theorem fnOf_rep {w : World} {N : Nat → Prop} {ρ : Nat → Pl} {v : AV} {x : Value} {f : FuncId} {caps : List AV} (hr : RepA w N ρ v x) (h : fnOf v = some (f, caps)) :
    ∃ vs : List Value, x = .func (.func f) #[] vs.toArray ∧ caps.length = vs.length ∧ (∀ (i : Nat) (h1 : i < caps.length) (h2 : i < vs.length), RepA w N ρ caps[i] vs[i]) ∧ ∀ q, v.sc q = true → AV.sc.scAll q caps = true := by
  unfold fnOf at h
  split at h
  · cases h
    cases hr with
    | c hr =>
      cases hr with
      | fn _ cs vs hl hc =>
        exact ⟨vs, rfl, by simpa using hl, fun i h1 h2 => by rw [List.getElem_map]; exact .c (hc i (by simpa using h1) h2), fun q _ => sc_map_c _⟩
  · cases h
    cases hr with
    | fn _ us vs hl hc => exact ⟨vs, rfl, hl, hc, fun q hq => hq⟩
  · cases h

theorem upon_callOut {o : Oper} {a : Act} {K : Act → World → Prop} {Q : Exit → Act → World → Prop} {f : FuncId} {vs : Array Value} {w : World} {R : Value → World → Prop} (h : CallOut P f vs w R) (hr : ∀ v w', R v w' → K (a.put o.dst v) w') : o.upon P a K Q ((callFunc f vs).run P w) := by
  rcases h with ⟨h1, h2⟩ | ⟨v, w', h1, h2⟩
  · rw [h1]
    refine h2.mono ?_
    rintro e w' ⟨v, rfl, h3⟩
    exact hr v w' h3
  · rw [h1]; exact hr v w' h2

theorem RunOps.call {ops : Array Oper} {i : Nat} {l : List Nat} {o : Oper} {c : Call} {fo : Operand} {fv : AV} {f : FuncId} {caps args : List AV} {r : AV} {h' : List ABlk} (hi : ops[i]? = some o) (hw : wantedA ops s.t o = some true)
    (hop : o.op = .call c) (hc : c.callee = .value fo) (hf : opd s.t fo = some fv) (hfn : fnOf fv = some (f, caps)) (ha : argsA s.t c.args.toList = some args) (G : Good P f (args ++ caps) s.h r h') (h : RunOps P n ops l Q ⟨setD s.t o.dst r, h'⟩) : RunOps P n ops (i :: l) Q s := fun X a w hX hs => by
  rw [wpOps_cons]; unfold wpOp; rw [hi]
  simp only [wantedA_sound hs hw, if_true]
  obtain ⟨N, ρ, S⟩ := hs
  refine .inl ?_
  unfold Oper.wp
  obtain ⟨vs, hvs, hl, hrep, hsc⟩ := fnOf_rep (opd_rep S.slots hf) hfn
  obtain ⟨p1, p2, p3⟩ := argsA_sound S.slots c.args.toList args ha
  have hfsc : AV.sc.scAll (born s.h) caps = true := hsc _ (opd_sc S.sc hf)
  let xs := c.args.toList.map a.eval
  have e1 : (execOp a.eval o).run P w = (callFunc f (xs ++ vs).toArray).run P w := by
    have e2 : c.args.map a.eval ++ vs.toArray = (xs ++ vs).toArray := by
      apply Array.toList_inj.1; simp [xs]
    simp [execOp, hop, resolve, hc, hvs, Deferred.ofValue, invoke]
    rw [e2]
  rw [e1]
  refine upon_callOut (R := fun v w' => OpOut N s.h ρ w r h' v w') (G w N ρ (xs ++ vs) S.heap ?_ (by simp [xs, p1, hl]) ?_) ?_
  · refine scAll_iff.2 fun x hx => ?_
    rcases List.mem_append.1 hx with h1 | h1
    · exact scAll_iff.1 (p3 _ S.sc) x h1
    · exact scAll_iff.1 hfsc x h1
  · intro i h1 h2
    by_cases hlt : i < args.length
    · rw [List.getElem_append_left hlt, List.getElem_append_left (by rw [show xs.length = args.length by simp [xs, p1]]; exact hlt)]
      have := p2 i hlt (by rw [← p1]; exact hlt)
      simp only [xs, List.getElem_map]
      exact this
    · have hge : args.length ≤ i := by omega
      have e3 : xs.length = args.length := by simp [xs, p1]
      rw [List.getElem_append_right hge, List.getElem_append_right (by omega)]
      have := hrep (i - args.length) (by simp at h1; omega) (by simp [e3] at h2; omega)
      simpa [e3] using this
  · intro v w' ho
    exact h X _ w' hX (Sim.put S ho o.dst)
end
end Go.Ev

/-  The evaluator, part R: a function's end; what is let go: slots, blocks; rows that are written no more. -/
namespace Go.Ev
open Go.RowKit
variable [Globs]

/-! # the end of a function -/

def resOne (E : Env) (s : St) : ResultVar → Option AV
  | .tmp t => s.t[t]?
  | .cell a t => match s.t[a]? with
    | some (.ptr id off) => aLoad E t (.ptr id off) s.h
    | _ => none
def resAll (E : Env) (s : St) : List ResultVar → Option (List AV)
  | [] => some []
  | r :: rs => match resOne E s r, resAll E s rs with
    | some v, some vs => some (v :: vs)
    | _, _ => none
def resTop (l : List AV) : AV := match l with
  | [v] => v
  | l => .tup l
def resA (E : Env) (rs : List ResultVar) (s : St) : Option AV := (resAll E s rs).map resTop

def resSem (tmps : Array Value) : ResultVar → Sem Value
  | .tmp t => pure (tmps.getD t undef)
  | .cell a t => do loadVar t (← asAddr (tmps.getD a undef))

theorem resAll_sound {P : Program} {E : Env} (T : TabOK P E) {X : Ent} {s : St} {a : Act} {w : World} {N : Nat → Prop} {ρ : Nat → Pl} (S : SimAt X s a w N ρ) : ∀ (rs : List ResultVar) (vs : List AV), resAll E s rs = some vs →
    ∃ xs : List Value, (rs.mapM (resSem a.tmps)).run P w = .ok xs w ∧ vs.length = xs.length ∧ (∀ (i : Nat) (h1 : i < vs.length) (h2 : i < xs.length), RepA w N ρ vs[i] xs[i]) ∧ AV.sc.scAll (born s.h) vs = true
  | [], vs, h => by
    simp [resAll] at h; subst h
    exact ⟨[], by simp, rfl, fun i h1 => absurd h1 (by simp), rfl⟩
  | r :: rs, vs, h => by
    unfold resAll at h
    split at h
    · rename_i v vs' hv hvs
      cases h
      obtain ⟨xs, h1, h2, h3, h4⟩ := resAll_sound T S rs vs' hvs
      have one : ∃ x, (resSem a.tmps r).run P w = .ok x w ∧ RepA w N ρ v x ∧ v.sc (born s.h) = true := by
        unfold resOne at hv
        split at hv
        · rename_i t
          obtain ⟨x, hx, hr⟩ := S.slots.rep t v hv
          exact ⟨x, by simp [resSem, hx], hr, scAll_iff.1 S.sc _ (List.mem_of_getElem? hv)⟩
        · rename_i a' t
          split at hv
          · rename_i id off ha
            obtain ⟨x, hx, hr⟩ := S.slots.rep a' _ ha
            obtain ⟨y, hy, hry, hs⟩ := aLoad_sound T S.heap hr hv
            cases hr
            refine ⟨y, ?_, hry, hs⟩
            simp [Instr.loadAt, Instr.sureAddr] at hy
            simp [resSem, hx, asAddr, hy]
          · cases hv
      obtain ⟨x, g1, g2, g3⟩ := one
      refine ⟨x :: xs, ?_, by simp [h2], fun i a b => ?_, by simp only [AV.sc.scAll, Bool.and_eq_true]; exact ⟨g3, h4⟩⟩
      · simp [List.mapM_cons, g1, h1]
      · cases i with
        | zero => exact g2
        | succ i => exact h3 i (by simpa using a) (by simpa using b)
    · cases h

theorem resA_sound {P : Program} {E : Env} (T : TabOK P E) {X : Ent} {s : St} {a : Act} {w : World} {N : Nat → Prop} {ρ : Nat → Pl} (S : SimAt X s a w N ρ) {fn : Func} {v : AV} (h : resA E fn.results.toList s = some v) :
    ∃ x, (results fn a.tmps).run P w = .ok x w ∧ RepA w N ρ v x ∧ v.sc (born s.h) = true := by
  obtain ⟨vs, hvs, rfl⟩ := Option.map_eq_some_iff.1 h
  obtain ⟨xs, h1, h2, h3, h4⟩ := resAll_sound T S _ _ hvs
  refine ⟨if h : xs.toArray.size = 1 then xs.toArray[0] else .tuple xs.toArray, ?_, ?_⟩
  · have e1 : results fn a.tmps = (do let vs ← fn.results.mapM (resSem a.tmps); pure (if h : vs.size = 1 then vs[0] else .tuple vs)) := by
      unfold results
      congr 1
    rw [e1, Array.mapM_eq_mapM_toList]
    simp [h1]
  · unfold resTop
    split
    · rename_i v
      match xs, h2 with
      | [x], _ => exact ⟨h3 0 (by simp) (by simp), by simp only [AV.sc.scAll, Bool.and_true] at h4; exact h4⟩
    · rename_i hn
      have : ¬ xs.toArray.size = 1 := by
        intro hl
        have h5 : vs.length = 1 := by rw [h2]; simpa using hl
        match vs, h5 with
        | [v], _ => exact hn v rfl
      rw [dif_neg this]
      exact ⟨.tup vs xs h2 h3, h4⟩

/-- A function's contract, out of its code's run. -/
theorem Good.of_run {P : Program} {E : Env} (T : TabOK P E) {f : FuncId} {fn : Func} {c : Code} {args : List AV} {h h' : List ABlk} {r : AV} (hf : P.funcs[f]? = some fn) (hb : fn.body = some c) (hn : (fn.name == "runtime.NumGoroutine") = false)
    (hrun : Run P h.length c (fun e s => (e = .normal ∨ e = .ret) ∧ resA E fn.results.toList s = some r ∧ s.h = h') ⟨args ++ List.replicate (fn.ntmps - args.length) .und, h⟩) : Good P f args h r h' := by
  intro w N ρ vs H hsc hl hrep
  refine .inl ⟨by have hn' : ¬ fn.name = "runtime.NumGoroutine" := by simpa using hn
                  simp [callFunc, go_sem, hf, hn', hb], ?_⟩
  refine calls_of_wp hf hb ?_
  let X : Ent := ⟨N, h, ρ, w⟩
  have hs : Sim X ⟨args ++ List.replicate (fn.ntmps - args.length) .und, h⟩ { tmps := vs.toArray ++ Array.replicate (fn.ntmps - vs.toArray.size) undef, defers := [] } w := by
    refine ⟨N, ρ, H, ⟨by simp [hl], fun i v hv => ?_, H.glob⟩, ?_, Kept.refl _ _ _ _, rfl⟩
    · simp only at hv ⊢
      by_cases hlt : i < args.length
      · rw [List.getElem?_append_left hlt, List.getElem?_eq_getElem hlt] at hv
        cases hv
        exact ⟨vs[i], by rw [Array.getElem?_append_left (by simp; omega)]; simp [show i < vs.length by omega], hrep i hlt (by omega)⟩
      · rw [List.getElem?_append_right (by omega)] at hv
        have h1 := List.getElem?_eq_some_iff.1 hv
        obtain ⟨h2, h3⟩ := h1
        simp only [List.getElem_replicate] at h3
        subst h3
        simp only [List.length_replicate] at h2
        refine ⟨undef, ?_, .und⟩
        rw [Array.getElem?_append_right (by simp; omega)]
        simp only [List.size_toArray, Array.getElem?_replicate]
        rw [if_pos (by omega)]
    · refine scAll_iff.2 fun x hx => ?_
      rcases List.mem_append.1 hx with h1 | h1
      · exact scAll_iff.1 hsc x h1
      · rw [(List.mem_replicate.1 h1).2]; rfl
  refine wp_mono (hrun X _ _ (Nat.le_refl _) hs) ?_
  rintro e a' w' ⟨s', ⟨N', ρ', S⟩, he, hr, rfl⟩
  obtain ⟨x, hx, hrx, hsx⟩ := resA_sound T S hr
  have out : a'.defers = [] ∧ ∃ v, (results fn a'.tmps).run P w' = .ok v w' ∧ ∃ v_1, Ending.returned v = .returned v_1 ∧ OpOut N h ρ w r s'.h v_1 w' := ⟨S.defers, x, hx, x, rfl, ⟨⟨N', ρ', S.heap, hrx, S.kept, hsx⟩⟩⟩
  rcases he with rfl | rfl
  · exact out
  · exact out

/-- The same with an end that may be turned into another state. -/
theorem Run.turn {P : Program} {n : Nat} {c : Code} {Q Q' : Exit → St → Prop} {s : St} (h : Run P n c Q s) (ht : ∀ e s1 X a w, X.h.length ≤ n → Q e s1 → Sim X s1 a w → ∃ s2, Sim X s2 a w ∧ Q' e s2) : Run P n c Q' s := fun X a w hX hs =>
  wp_mono (h X a w hX hs) fun e a' w' ⟨s1, h1, h2⟩ => ht e s1 X a' w' hX h2 h1
theorem Run.from {P : Program} {n : Nat} {c : Code} {Q : Exit → St → Prop} {s s' : St} (ht : ∀ X a w, X.h.length ≤ n → Sim X s a w → Sim X s' a w) (h : Run P n c Q s') : Run P n c Q s := fun X a w hX hs => h X a w hX (ht X a w hX hs)

/-! # letting go -/

def scrub (q : Nat → Bool) (v : AV) : AV := if v.sc q then v else .dead
def scrubB (q : Nat → Bool) : ABlk → ABlk
  | .box cs => .box (cs.map (scrub q))
  | k => k

/-- The first k slots and the first m blocks stay. -/
def gc (k m : Nat) (s : St) : St :=
  ⟨(s.t.take k).map (scrub (born (s.h.take m))) ++ List.replicate (s.t.length - k) .dead, (s.h.take m).map (scrubB (born (s.h.take m)))⟩

theorem scrub_rep {w : World} {N : Nat → Prop} {ρ : Nat → Pl} {v : AV} {x : Value} (q : Nat → Bool) (h : RepA w N ρ v x) : RepA w N ρ (scrub q v) x := by
  unfold scrub; split
  · exact h
  · exact .dead x
theorem scrub_sc (q : Nat → Bool) (v : AV) : (scrub q v).sc q = true := by
  unfold scrub; split
  · assumption
  · rfl
theorem born_map (h : List ABlk) (q : Nat → Bool) (i : Nat) : born (h.map (scrubB q)) i = born h i := by
  unfold born; rw [List.getElem?_map]
  cases h[i]? with
  | none => rfl
  | some k => cases k <;> rfl
theorem born_take {h : List ABlk} {m i : Nat} (hb : born h i = true) (hi : i < m) : born (h.take m) i = true := by
  unfold born at *; rw [List.getElem?_take_of_lt hi]; exact hb
theorem born_lt {h : List ABlk} {i : Nat} (hb : born h i = true) : i < h.length := by
  unfold born at hb; split at hb
  · cases hb
  · rename_i hk; exact (List.getElem?_eq_some_iff.1 hk).1
  · cases hb

theorem Sim.gc {X : Ent} {s : St} {a : Act} {w : World} (k m : Nat) (hm : X.h.length ≤ m) (hs : Sim X s a w) : Sim X (gc k m s) a w := by
  obtain ⟨N, ρ, S⟩ := hs
  let q := born (s.h.take m)
  have hget : ∀ i k', ((s.h.take m).map (scrubB q))[i]? = some k' → ∃ k0, s.h[i]? = some k0 ∧ k' = scrubB q k0 := fun i k' hk => by
    rw [List.getElem?_map] at hk
    obtain ⟨k0, h0, rfl⟩ := Option.map_eq_some_iff.1 hk
    rw [List.getElem?_take] at h0
    split at h0
    · exact ⟨k0, h0, rfl⟩
    · cases h0
  have hown : ∀ i, owns ((s.h.take m).map (scrubB q)) ρ i → owns s.h ρ i := fun i ⟨⟨k', hk, h1, h2⟩, hp⟩ => by
    obtain ⟨k0, h0, rfl⟩ := hget i k' hk
    exact ⟨⟨k0, h0, fun e => h1 (by rw [e]; rfl), fun e => h2 (by rw [e]; rfl)⟩, hp⟩
  refine ⟨N, ρ, ⟨S.heap.lt, fun i j hi hj => S.heap.inj i j (hown i hi) (hown j hj), fun i hi => S.heap.apart i (hown i hi), fun i k' hk => ?_, fun i cs hk => ?_, S.heap.glob⟩, ⟨?_, fun i v hv => ?_, S.heap.glob⟩, ?_, ?_, S.defers⟩
  · obtain ⟨k0, h0, rfl⟩ := hget i k' hk
    have := S.heap.own i k0 h0
    cases k0 with
    | box cs =>
      obtain ⟨h1, h2, vs, t, fr, hh, hf, hl, hc⟩ := this
      refine ⟨h1, h2, vs, t, fr, hh, hf, by simp [hl], fun j hj => ?_⟩
      simp only [List.length_map] at hj
      obtain ⟨x, hx, hr⟩ := hc j hj
      exact ⟨x, hx, by rw [List.getElem_map]; exact scrub_rep q hr⟩
    | rows => exact this
    | gone => exact this
    | unborn => exact this
  · obtain ⟨k0, h0, h1⟩ := hget i _ hk
    cases k0 with
    | box cs0 =>
      cases h1
      refine scAll_iff.2 fun x hx => ?_
      obtain ⟨y, _, rfl⟩ := List.mem_map.1 hx
      have := scrub_sc q y
      refine AV.sc_mono (fun i hi => ?_) _ this
      show born (List.map _ _) i = true
      rw [born_map]; exact hi
    | _ => cases h1
  · have := S.slots.len
    simp only [Ev.gc, List.length_append, List.length_map, List.length_take, List.length_replicate, ← this]; omega
  · simp only [Ev.gc] at hv
    by_cases hlt : i < ((s.t.take k).map (scrub (born (s.h.take m)))).length
    · rw [List.getElem?_append_left hlt, List.getElem?_map] at hv
      obtain ⟨v0, h0, rfl⟩ := Option.map_eq_some_iff.1 hv
      rw [List.getElem?_take] at h0
      split at h0
      · obtain ⟨x, hx, hr⟩ := S.slots.rep i v0 h0
        exact ⟨x, hx, scrub_rep q hr⟩
      · cases h0
    · rw [List.getElem?_append_right (by omega)] at hv
      obtain ⟨h2, h3⟩ := List.getElem?_eq_some_iff.1 hv
      simp only [List.getElem_replicate] at h3
      subst h3
      simp only [List.length_replicate, List.length_map, List.length_take] at h2 hlt
      have hsz : i < a.tmps.size := by rw [← S.slots.len]; omega
      exact ⟨a.tmps[i], Array.getElem?_eq_getElem hsz, .dead _⟩
  · refine scAll_iff.2 fun x hx => ?_
    simp only [Ev.gc] at hx
    rcases List.mem_append.1 hx with h1 | h1
    · obtain ⟨y, _, rfl⟩ := List.mem_map.1 h1
      refine AV.sc_mono (fun i hi => ?_) _ (scrub_sc q y)
      show born (List.map _ _) i = true
      rw [born_map]; exact hi
    · rw [(List.mem_replicate.1 h1).2]; rfl
  · have K := S.kept
    refine ⟨K.os, K.tape, K.output, K.size, fun i hi => ⟨?_, (K.rho i hi).2⟩, K.stay, K.from_, K.rest, fun i hi => K.new i (hown i hi)⟩
    show born (List.map _ _) i = true
    rw [born_map]
    exact born_take (K.rho i hi).1 (by have := born_lt hi; omega)

theorem Run.gc {P : Program} {n : Nat} {c : Code} {Q : Exit → St → Prop} {s : St} (k m : Nat) (hm : n ≤ m) (h : Run P n c Q (gc k m s)) : Run P n c Q s :=
  Run.from (fun X a w hX hs => hs.gc k m (Nat.le_trans hX hm)) h

/-- A loop, at whose head but the first k slots and the first m blocks stay. -/
theorem Run.loopGc {P : Program} {n : Nat} {c : Code} {Q : Exit → St → Prop} {s : St} (k m : Nat) (hm : n ≤ m) (I : Nat → St → Prop) (j : Nat) (h0 : I j (Ev.gc k m s)) (round : ∀ j s, I j s → Run P n c (thenS (fun s' => ∃ i, i < j ∧ I i (Ev.gc k m s')) Q) s) : Run P n (.loop c) Q s :=
  Run.gc k m hm (Run.loop I j h0 fun j s1 hI => (round j s1 hI).turn fun e s2 _ _ _ hX hq hs => by
    cases e with
    | normal => exact ⟨_, hs.gc k m (Nat.le_trans hX hm), hq⟩
    | _ => exact ⟨s2, hs, hq⟩)

/-! # a row that is written no more -/

def frzV (id : Nat) (sz : Nat) (xs : List (List CV)) : AV → AV
  | .sl i off len => if i = id then (if off + len ≤ xs.length then .c (.lst sz false ((xs.drop off).take len)) else .dead) else .sl i off len
  | .er i j o => if i = id then .dead else .er i j o
  | .agg vs => .agg (frzAll id sz xs vs)
  | .tup vs => .tup (frzAll id sz xs vs)
  | .fn f vs => .fn f (frzAll id sz xs vs)
  | v => v
where
  frzAll (id : Nat) (sz : Nat) (xs : List (List CV)) : List AV → List AV
    | [] => []
    | v :: vs => frzV id sz xs v :: frzAll id sz xs vs
def frzB (id : Nat) (sz : Nat) (xs : List (List CV)) : ABlk → ABlk
  | .box cs => .box (frzV.frzAll id sz xs cs)
  | k => k
def freeze (id : Nat) (s : St) : St := match s.h[id]? with
  | some (.rows sz _ xs) => ⟨frzV.frzAll id sz xs s.t, (s.h.map (frzB id sz xs)).set id .gone⟩
  | _ => s

theorem frzAll_length (id sz : Nat) (xs : List (List CV)) : ∀ l : List AV, (frzV.frzAll id sz xs l).length = l.length
  | [] => rfl
  | v :: l => by simp [frzV.frzAll, frzAll_length id sz xs l]
theorem frzAll_get (id sz : Nat) (xs : List (List CV)) : ∀ (l : List AV) (i : Nat), (frzV.frzAll id sz xs l)[i]? = (l[i]?).map (frzV id sz xs)
  | [], i => by simp [frzV.frzAll]
  | v :: l, 0 => rfl
  | v :: l, i + 1 => by simp [frzV.frzAll, frzAll_get id sz xs l i]
theorem frzAll_mem {id sz : Nat} {xs : List (List CV)} {l : List AV} {x : AV} (h : x ∈ frzV.frzAll id sz xs l) : ∃ y, y ∈ l ∧ x = frzV id sz xs y := by
  obtain ⟨i, hi⟩ := List.getElem?_of_mem h
  rw [frzAll_get] at hi
  obtain ⟨y, hy, rfl⟩ := Option.map_eq_some_iff.1 hi
  exact ⟨y, List.mem_of_getElem? hy, rfl⟩

theorem frz_sc (id sz : Nat) (xs : List (List CV)) (q : Nat → Bool) : ∀ v : AV, v.sc q = true → (frzV id sz xs v).sc q = true
  | .c _, _ | .rd _, _ | .und, _ | .dead, _ => rfl
  | .ptr _ _, h => h
  | .sl i off len, h => by
    simp only [frzV]; split
    · split <;> rfl
    · exact h
  | .er i j o, h => by
    simp only [frzV]; split
    · rfl
    · exact h
  | .agg vs, h | .tup vs, h | .fn _ vs, h => all vs h
where
  all : ∀ vs : List AV, AV.sc.scAll q vs = true → AV.sc.scAll q (frzV.frzAll id sz xs vs) = true
    | [], _ => rfl
    | v :: vs, h => by
      simp only [AV.sc.scAll, Bool.and_eq_true] at h
      simp only [frzV.frzAll, AV.sc.scAll, Bool.and_eq_true]
      exact ⟨frz_sc id sz xs q v h.1, all vs h.2⟩

theorem frz_row {N : Nat → Prop} {h : List ABlk} {ρ : Nat → Pl} {w : World} (H : HeapOK N h ρ w) {id sz : Nat} {e : TypeId} {xs : List (List CV)} (hk : h[id]? = some (.rows sz e xs)) {off len : Nat} {x : Value} (h1 : RepA w N ρ (.sl id off len) x) (h2 : off + len ≤ xs.length) :
    RepA w (fun b => N b ∨ (owns h ρ id ∧ (ρ id).b = b)) ρ (.c (.lst sz false ((xs.drop off).take len))) x := by
  have := (snap_rep (ρ' := ρ) H (args := [.sl id off len]) (v := .sl id off len) (by simp) h1 (c := .c (.lst sz false ((xs.drop off).take len))) (by simp [snap, hk, h2])).1
  refine this.mono (q := fun _ => true) rfl (fun b hb => ⟨?_, rfl⟩) fun _ _ => rfl
  rcases hb with hb | ⟨i, o, l, hm, ho, he⟩
  · exact .inl hb
  · simp at hm
    obtain ⟨rfl, _, _⟩ := hm
    exact .inr ⟨ho, he⟩

theorem frz_rep {N : Nat → Prop} {h : List ABlk} {ρ : Nat → Pl} {w : World} (H : HeapOK N h ρ w) {id sz : Nat} {e : TypeId} {xs : List (List CV)} (hk : h[id]? = some (.rows sz e xs)) {v : AV} {x : Value} (hr : RepA w N ρ v x) (q : Nat → Bool) (hq : v.sc q = true) :
    RepA w (fun b => N b ∨ (owns h ρ id ∧ (ρ id).b = b)) ρ (frzV id sz xs v) x := by
  have hN : ∀ b, N b → (fun b => N b ∨ (owns h ρ id ∧ (ρ id).b = b)) b ∧ w.heap[b]? = w.heap[b]? := fun b hb => ⟨.inl hb, rfl⟩
  have same : ∀ {v : AV} {x : Value}, RepA w N ρ v x → v.sc (fun _ => true) = true → RepA w (fun b => N b ∨ (owns h ρ id ∧ (ρ id).b = b)) ρ v x := fun h1 h2 => h1.mono (q := fun _ => true) h2 hN fun _ _ => rfl
  induction hr with
  | c h => exact .c (h.mono hN)
  | agg us vs hl h ih =>
    refine .agg _ vs (by rw [frzAll_length]; exact hl) fun i a b => ?_
    have a' : i < us.length := by rw [frzAll_length] at a; exact a
    have e1 : (frzV.frzAll id sz xs us)[i] = frzV id sz xs us[i] := by
      have := frzAll_get id sz xs us i
      rw [List.getElem?_eq_getElem a, List.getElem?_eq_getElem a'] at this
      simpa using this
    rw [e1]
    exact ih i a' b (scAll_get hq a')
  | tup us vs hl h ih =>
    refine .tup _ vs (by rw [frzAll_length]; exact hl) fun i a b => ?_
    have a' : i < us.length := by rw [frzAll_length] at a; exact a
    have e1 : (frzV.frzAll id sz xs us)[i] = frzV id sz xs us[i] := by
      have := frzAll_get id sz xs us i
      rw [List.getElem?_eq_getElem a, List.getElem?_eq_getElem a'] at this
      simpa using this
    rw [e1]
    exact ih i a' b (scAll_get hq a')
  | fn f us vs hl h ih =>
    refine .fn f _ vs (by rw [frzAll_length]; exact hl) fun i a b => ?_
    have a' : i < us.length := by rw [frzAll_length] at a; exact a
    have e1 : (frzV.frzAll id sz xs us)[i] = frzV id sz xs us[i] := by
      have := frzAll_get id sz xs us i
      rw [List.getElem?_eq_getElem a, List.getElem?_eq_getElem a'] at this
      simpa using this
    rw [e1]
    exact ih i a' b (scAll_get hq a')
  | ptr i off => exact .ptr i off
  | sn i hp =>
    simp only [frzV]; split
    · rename_i e; subst e
      rw [if_pos (by omega)]
      exact frz_row H hk (.sn i hp) (by omega)
    · exact .sn i hp
  | sl i off len cap o hp ho h1 h2 hm =>
    simp only [frzV]; split
    · rename_i e; subst e
      split
      · rename_i hle; exact frz_row H hk (.sl i off len cap o hp ho h1 h2 hm) hle
      · exact .dead _
    · exact .sl i off len cap o hp ho h1 h2 hm
  | er i j o =>
    simp only [frzV]; split
    · exact .dead _
    · exact .er i j o
  | rd cs b o hb hc => exact same (.rd cs b o hb hc) rfl
  | und => exact .und
  | dead x => exact .dead x
end Go.Ev

/-  The evaluator, part S: a row is frozen; a call of a function that is known by its run on other numbers. -/
namespace Go.Ev
open Go.RowKit
variable [Globs]

theorem Sim.freeze {X : Ent} {s : St} {a : Act} {w : World} (id : Nat) (hs : Sim X s a w) : Sim X (freeze id s) a w := by
  unfold Ev.freeze
  split
  case h_2 => exact hs
  rename_i sz e xs hk
  obtain ⟨N, ρ, S⟩ := hs
  have H := S.heap
  have hid : id < s.h.length := (List.getElem?_eq_some_iff.1 hk).1
  have hN : ∀ b, N b → (fun b => N b ∨ (owns s.h ρ id ∧ (ρ id).b = b)) b ∧ w.heap[b]? = w.heap[b]? := fun b hb => ⟨.inl hb, rfl⟩
  have hget : ∀ i k', ((s.h.map (frzB id sz xs)).set id .gone)[i]? = some k' → (i = id ∧ k' = .gone) ∨ (i ≠ id ∧ ∃ k0, s.h[i]? = some k0 ∧ k' = frzB id sz xs k0) := fun i k' hk' => by
    by_cases e : i = id
    · subst e
      rw [List.getElem?_set_self (by simpa using hid)] at hk'
      cases hk'; exact .inl ⟨rfl, rfl⟩
    · rw [List.getElem?_set_ne (Ne.symm e), List.getElem?_map] at hk'
      obtain ⟨k0, h0, rfl⟩ := Option.map_eq_some_iff.1 hk'
      exact .inr ⟨e, k0, h0, rfl⟩
  have hown : ∀ i, owns ((s.h.map (frzB id sz xs)).set id .gone) ρ i → i ≠ id ∧ owns s.h ρ i := fun i ⟨⟨k', hk', h1, h2⟩, hp⟩ => by
    rcases hget i k' hk' with ⟨_, rfl⟩ | ⟨hne, k0, h0, rfl⟩
    · simp at h1
    · exact ⟨hne, ⟨k0, h0, fun e => h1 (by rw [e]; rfl), fun e => h2 (by rw [e]; rfl)⟩, hp⟩
  have hborn : ∀ i, born s.h i = true → born ((s.h.map (frzB id sz xs)).set id .gone) i = true := fun i hi => by
    by_cases e : i = id
    · subst e; simp [born, hid]
    · unfold born at *
      rw [List.getElem?_set_ne (Ne.symm e), List.getElem?_map]
      cases h0 : s.h[i]? with
      | none => rw [h0] at hi; cases hi
      | some k => rw [h0] at hi; cases k <;> first | rfl | cases hi
  refine ⟨fun b => N b ∨ (owns s.h ρ id ∧ (ρ id).b = b), ρ, ⟨?_, fun i j hi hj => H.inj i j (hown i hi).2 (hown j hj).2, fun i hi hb => ?_, fun i k' hk' => ?_, fun i cs hk' => ?_, H.glob.mono hN⟩, ⟨by simp [frzAll_length, S.slots.len], fun i v hv => ?_, H.glob.mono hN⟩, ?_, ?_, S.defers⟩
  · rintro b (hb | ⟨ho, rfl⟩)
    · exact H.lt b hb
    · exact own_lt H ho
  · rcases hb with hb | ⟨ho, he⟩
    · exact H.apart i (hown i hi).2 hb
    · exact (hown i hi).1 (H.inj i id (hown i hi).2 ho he.symm)
  · rcases hget i k' hk' with ⟨_, rfl⟩ | ⟨hne, k0, h0, rfl⟩
    · trivial
    · have := H.own i k0 h0
      cases k0 with
      | box cs =>
        obtain ⟨h1, h2, vs, t, fr, hh, hf, hl, hc⟩ := this
        refine ⟨h1, h2, vs, t, fr, hh, hf, by simp [frzAll_length, hl], fun j hj => ?_⟩
        have hj' : j < cs.length := by rw [frzAll_length] at hj; exact hj
        obtain ⟨x, hx, hr⟩ := hc j hj'
        refine ⟨x, hx, ?_⟩
        have e1 : (frzV.frzAll id sz xs cs)[j] = frzV id sz xs cs[j] := by
          have := frzAll_get id sz xs cs j
          rw [List.getElem?_eq_getElem hj, List.getElem?_eq_getElem hj'] at this
          simpa using this
        rw [e1]
        exact frz_rep H hk hr _ (scAll_get (H.scope i cs h0) hj')
      | rows sz' e' ys =>
        exact this.mono (q := born s.h) (fun cs hcs => by cases hcs) (fun _ _ _ => rfl) hN (fun _ _ => rfl)
      | gone => trivial
      | unborn => trivial
  · rcases hget i _ hk' with ⟨_, h0⟩ | ⟨hne, k0, h0, h1⟩
    · cases h0
    · cases k0 with
      | box cs0 =>
        cases h1
        refine scAll_iff.2 fun x hx => ?_
        obtain ⟨y, hy, rfl⟩ := frzAll_mem hx
        exact frz_sc id sz xs _ y (AV.sc_mono hborn y (scAll_iff.1 (H.scope i cs0 h0) y hy))
      | _ => cases h1
  · simp only at hv
    rw [frzAll_get] at hv
    obtain ⟨v0, h0, rfl⟩ := Option.map_eq_some_iff.1 hv
    obtain ⟨x, hx, hr⟩ := S.slots.rep i v0 h0
    exact ⟨x, hx, frz_rep H hk hr _ (scAll_iff.1 S.sc _ (List.mem_of_getElem? h0))⟩
  · refine scAll_iff.2 fun x hx => ?_
    obtain ⟨y, hy, rfl⟩ := frzAll_mem hx
    exact frz_sc id sz xs _ y (AV.sc_mono hborn y (scAll_iff.1 S.sc y hy))
  · have K := S.kept
    refine ⟨K.os, K.tape, K.output, K.size, fun i hi => ⟨hborn i (K.rho i hi).1, (K.rho i hi).2⟩, fun b hb => ⟨.inl (K.stay b hb).1, (K.stay b hb).2⟩, ?_, K.rest, fun i hi => K.new i (hown i hi).2⟩
    rintro b (hb | ⟨ho, rfl⟩)
    · exact K.from_ b hb
    · rcases K.new id ho with h1 | ⟨j, hj, h1⟩
      · exact .inr (.inl h1)
      · exact .inr (.inr ⟨j, hj, h1⟩)

theorem Run.freeze {P : Program} {n : Nat} {c : Code} {Q : Exit → St → Prop} {s : St} (id : Nat) (h : Run P n c Q (freeze id s)) : Run P n c Q s :=
  Run.from (fun _ _ _ _ hs => hs.freeze id) h
theorem Run.frozen {P : Program} {n : Nat} {c : Code} {Q : Exit → St → Prop} {s : St} (id : Nat) (h : Run P n c (fun e s => Q e (Ev.freeze id s)) s) : Run P n c Q s :=
  h.turn fun _ s1 _ _ _ _ hq hs => ⟨_, hs.freeze id, hq⟩
theorem RunOps.freeze {P : Program} {n : Nat} {ops : Array Oper} {l : List Nat} {Q : Exit → St → Prop} {s : St} (id : Nat) (h : RunOps P n ops l Q (freeze id s)) : RunOps P n ops l Q s :=
  fun X a w hX hs => h X a w hX (hs.freeze id)
end Go.Ev

/-  The evaluator, part Sc: rows that are laid into a row are written no more. -/
namespace Go.Ev
open Go.RowKit
variable [Globs]

def idOf : AV → Option Nat
  | .sl id _ _ => some id
  | _ => none
def topIds : AV → List Nat
  | .sl id _ _ | .ptr id _ | .er id _ _ => [id]
  | .fn _ caps => caps.filterMap idOf
  | .agg vs => vs.filterMap idOf
  | _ => []
def slIds : AV → List Nat
  | .sl id _ _ => [id]
  | .agg vs => vs.filterMap idOf
  | _ => []
def closes : Op → Bool
  | .buildSlice .. => true
  | .store .. => true
  | _ => false

def shutIds : List Nat → List AV → List ABlk → List AV × List (Nat × ABlk)
  | [], t, _ => (t, [])
  | id :: ids, t, h => match h[id]? with
    | some (.rows sz _ xs) => let r := shutIds ids (frzV.frzAll id sz xs t) (hput h id .gone); (r.1, (id, .gone) :: r.2)
    | _ => shutIds ids t h

def idsIn (t : List AV) (x : Operand) : List Nat := match opd t x with
  | some v => slIds v
  | none => []

/-- An operation; where it must, rows among its operands are given up first: what they hold is held by the value. -/
def evOpC (E : Env) (op : Op) (ty : TypeId) (t : List AV) (h : List ABlk) (nw : Nat) : Option (AV × List (Nat × ABlk)) :=
  match evOp E op ty t h nw with
  | some r => some r
  | none => if closes op then
      let r := shutIds (op.operands.toList.flatMap (idsIn t)) t h
      match evOp E op ty r.1 (app h r.2) nw with
      | some (v, U) => some (v, r.2 ++ U)
      | none => none
    else none

theorem HeapOK.shut {N : Nat → Prop} {h : List ABlk} {ρ : Nat → Pl} {w : World} (H : HeapOK N h ρ w) {id sz : Nat} {e : TypeId} {xs : List (List CV)} (hk : h[id]? = some (.rows sz e xs)) :
    HeapOK (fun b => N b ∨ (owns h ρ id ∧ (ρ id).b = b)) (h.set id .gone) ρ w ∧ Kept N h ρ w (fun b => N b ∨ (owns h ρ id ∧ (ρ id).b = b)) (h.set id .gone) ρ w ∧ ∀ i, born h i = true → born (h.set id .gone) i = true := by
  have hid : id < h.length := (List.getElem?_eq_some_iff.1 hk).1
  have hN : ∀ b, N b → (fun b => N b ∨ (owns h ρ id ∧ (ρ id).b = b)) b ∧ w.heap[b]? = w.heap[b]? := fun b hb => ⟨.inl hb, rfl⟩
  have hget : ∀ (i : Nat) (k' : ABlk), (h.set id .gone)[i]? = some k' → (i = id ∧ k' = .gone) ∨ (i ≠ id ∧ h[i]? = some k') := fun i k' hk' => by
    by_cases e : i = id
    · subst e
      rw [List.getElem?_set_self hid] at hk'
      cases hk'; exact .inl ⟨rfl, rfl⟩
    · rw [List.getElem?_set_ne (Ne.symm e)] at hk'
      exact .inr ⟨e, hk'⟩
  have hown : ∀ i, owns (h.set id .gone) ρ i → i ≠ id ∧ owns h ρ i := fun i ⟨⟨k', hk', h1, h2⟩, hp⟩ => by
    rcases hget i k' hk' with ⟨_, rfl⟩ | ⟨hne, h0⟩
    · simp at h1
    · exact ⟨hne, ⟨k', h0, h1, h2⟩, hp⟩
  have hborn : ∀ i, born h i = true → born (h.set id .gone) i = true := fun i hi => by
    by_cases e : i = id
    · subst e; simp [born, hid]
    · unfold born at *
      rw [List.getElem?_set_ne (Ne.symm e)]; exact hi
  refine ⟨⟨?_, fun i j hi hj => H.inj i j (hown i hi).2 (hown j hj).2, fun i hi hb => ?_, fun i k' hk' => ?_, fun i cs hk' => ?_, H.glob.mono hN⟩, ⟨rfl, rfl, rfl, Nat.le_refl _, fun i hi => ⟨hborn i hi, rfl⟩, hN, ?_, fun _ _ _ => rfl, fun i hi => .inr ⟨i, (hown i hi).2, rfl⟩⟩, hborn⟩
  · rintro b (hb | ⟨ho, rfl⟩)
    · exact H.lt b hb
    · exact own_lt H ho
  · rcases hb with hb | ⟨ho, he⟩
    · exact H.apart i (hown i hi).2 hb
    · exact (hown i hi).1 (H.inj i id (hown i hi).2 ho he.symm)
  · rcases hget i k' hk' with ⟨_, rfl⟩ | ⟨hne, h0⟩
    · trivial
    · exact (H.own i k' h0).mono (q := born h) (fun cs hcs => by subst hcs; exact H.scope i cs h0) (fun _ _ _ => rfl) hN (fun _ _ => rfl)
  · rcases hget i _ hk' with ⟨_, h0⟩ | ⟨hne, h0⟩
    · cases h0
    · exact AV.sc_mono.all hborn cs (H.scope i cs h0)
  · rintro b (hb | ⟨ho, rfl⟩)
    · exact .inl hb
    · exact .inr (.inr ⟨id, ho, rfl⟩)

theorem shutIds_sound {ρ : Nat → Pl} {w : World} {tmps : Array Value} : ∀ (ids : List Nat) {N : Nat → Prop} {t : List AV} {h : List ABlk}, HeapOK N h ρ w → Slots w N ρ t tmps → AV.sc.scAll (born h) t = true →
    ∃ N', HeapOK N' (app h (shutIds ids t h).2) ρ w ∧ Slots w N' ρ (shutIds ids t h).1 tmps ∧ AV.sc.scAll (born (app h (shutIds ids t h).2)) (shutIds ids t h).1 = true ∧ Kept N h ρ w N' (app h (shutIds ids t h).2) ρ w ∧ (app h (shutIds ids t h).2).length = h.length ∧ ∀ i : Nat, h[i]? = some ABlk.unborn → (app h (shutIds ids t h).2)[i]? = some ABlk.unborn
  | [], N, t, h, H, S, hs => ⟨N, H, S, hs, Kept.refl _ _ _ _, rfl, fun _ h => h⟩
  | id :: ids, N, t, h, H, S, hs => by
    unfold shutIds
    split
    · rename_i sz e xs hk
      have hid : id < h.length := (List.getElem?_eq_some_iff.1 hk).1
      obtain ⟨H1, K1, hb⟩ := H.shut hk
      have S1 : Slots w (fun b => N b ∨ (owns h ρ id ∧ (ρ id).b = b)) ρ (frzV.frzAll id sz xs t) tmps := ⟨by rw [frzAll_length]; exact S.len, fun i v hv => by
        rw [frzAll_get] at hv
        obtain ⟨v0, h0, rfl⟩ := Option.map_eq_some_iff.1 hv
        obtain ⟨x, hx, hr⟩ := S.rep i v0 h0
        exact ⟨x, hx, frz_rep H hk hr _ (scAll_iff.1 hs _ (List.mem_of_getElem? h0))⟩, H1.glob⟩
      have hs1 : AV.sc.scAll (born (h.set id .gone)) (frzV.frzAll id sz xs t) = true := scAll_iff.2 fun x hx => by
        obtain ⟨y, hy, rfl⟩ := frzAll_mem hx
        exact frz_sc id sz xs _ y (AV.sc_mono hb y (scAll_iff.1 hs y hy))
      obtain ⟨N', H2, S2, hs2, K2, hl, hu⟩ := shutIds_sound ids H1 S1 hs1
      simp only [app, hput, if_pos hid]
      refine ⟨N', H2, S2, hs2, K1.trans K2, by rw [hl]; simp, fun i hi => hu i ?_⟩
      have : i ≠ id := fun e => by subst e; rw [hk] at hi; cases hi
      rw [List.getElem?_set_ne (Ne.symm this)]; exact hi
    · exact shutIds_sound ids H S hs

theorem app_append : ∀ (U V : List (Nat × ABlk)) (h : List ABlk), app h (U ++ V) = app (app h U) V
  | [], _, _ => rfl
  | (i, k) :: U, V, h => by simp only [List.cons_append, app]; exact app_append U V _

theorem execOp_tmps (a a' : Act) (o : Oper) (h : a.tmps = a'.tmps) : execOp a.eval o = execOp a'.eval o := by
  have : a.eval = a'.eval := funext fun x => by cases x <;> simp [Act.eval, h]
  rw [this]

theorem evOpC_sound {P : Program} {E : Env} (T : TabOK P E) {N : Nat → Prop} {h : List ABlk} {ρ : Nat → Pl} {w : World} (H : HeapOK N h ρ w) {t : List AV} {a : Act} (S : Slots w N ρ t a.tmps) (ht : AV.sc.scAll (born h) t = true) {o : Oper} {nw : Nat} {v : AV} {U : List (Nat × ABlk)} (hf : Fresh h nw)
    (hv : evOpC E o.op o.type t h nw = some (v, U)) : Yld P o a N h ρ w v (app h U) := by
  unfold evOpC at hv
  split at hv
  · rename_i r hr
    cases hv
    exact evOp_sound T H S ht hf hr
  · split at hv
    · simp only at hv
      split at hv
      · rename_i v1 U1 hr
        cases hv
        obtain ⟨N', H2, S2, hs2, K2, hl, hu⟩ := shutIds_sound (tmps := a.tmps) (o.op.operands.toList.flatMap (idsIn t)) H S ht
        obtain ⟨nx, x, w', hrun, hnx, ⟨N3, ρ3, H3, hr3, K3, hs3⟩⟩ := evOp_sound T H2 S2 hs2 (by
          rcases hf with hf | hf
          · exact .inl (by rw [hl]; exact hf)
          · exact .inr (hu _ hf)) hr
        rw [app_append]
        exact ⟨nx, x, w', hrun, hnx, ⟨N3, ρ3, H3, hr3, K2.trans K3, hs3⟩⟩
      · cases hv
    · cases hv

theorem RunOps.opC {P : Program} {n : Nat} {Q : Exit → St → Prop} {s : St} {E : Env} (T : TabOK P E) {ops : Array Oper} {i : Nat} {l : List Nat} {o : Oper} {v : AV} {U : List (Nat × ABlk)} (hi : ops[i]? = some o) (hw : wantedA ops s.t o = some true) (hv : evOpC E o.op o.type s.t s.h s.h.length = some (v, U)) (h : RunOps P n ops l Q ⟨setD s.t o.dst v, app s.h U⟩) : RunOps P n ops (i :: l) Q s := fun X a w hX hs => by
  rw [wpOps_cons]; unfold wpOp; rw [hi]
  simp only [wantedA_sound hs hw, if_true]
  obtain ⟨N, ρ, S⟩ := hs
  refine .inl ?_
  unfold Oper.wp
  obtain ⟨nx, x, w', hr, hnx, ho⟩ := evOpC_sound T S.heap S.slots S.sc (.inl rfl) hv
  rw [hr]
  rcases hnx with rfl | ⟨rfl, rfl⟩
  · exact h X _ w' hX (Sim.put S ho o.dst)
  · exact h X _ w' hX (Sim.put S ho o.dst)
end Go.Ev

/-  The evaluator, part T: an operation looks at its operands alone, and at the blocks that these lead into. -/
namespace Go.Ev
open Go.RowKit
variable [Globs]

/-- Two states in which an operand is the same, and what it leads into. -/
structure Same (t t' : List AV) (h h' : List ABlk) (x : Operand) : Prop where
  val : opd t' x = opd t x
  ids : ∀ v, opd t x = some v → ∀ id, id ∈ topIds v → h'[id]? = h[id]?

section
variable {t t' : List AV} {h h' : List ABlk}

theorem Same.one {x : Operand} {v : AV} (hs : Same t t' h h' x) (hv : opd t x = some v) {id : Nat} (hi : id ∈ topIds v) : h'[id]? = h[id]? := hs.ids v hv id hi

theorem parts_same : ∀ (ps : List (Nat × Operand)), (∀ x, x ∈ ps.map (·.2) → Same t t' h h' x) → parts t' ps = parts t ps
  | [], _ => rfl
  | (i, x) :: ps, hs => by
    unfold parts
    rw [(hs x (by simp)).val, parts_same ps fun y hy => hs y (by simp at hy ⊢; exact .inr hy)]
theorem argsA_same : ∀ (ps : List Operand), (∀ x, x ∈ ps → Same t t' h h' x) → argsA t' ps = argsA t ps
  | [], _ => rfl
  | x :: ps, hs => by
    unfold argsA
    rw [(hs x (by simp)).val, argsA_same ps fun y hy => hs y (by simp [hy])]
theorem argsA_ids : ∀ (ps : List Operand) (l : List AV), (∀ x, x ∈ ps → Same t t' h h' x) → argsA t ps = some l → ∀ v, v ∈ l → ∀ id, id ∈ topIds v → h'[id]? = h[id]?
  | [], l, _, hl, v, hv, _, _ => by simp [argsA] at hl; subst hl; cases hv
  | x :: ps, l, hs, hl, v, hv, id, hid => by
    unfold argsA at hl
    split at hl
    · rename_i u us hu hus
      cases hl
      rcases List.mem_cons.1 hv with e | e
      · subst e; exact (hs x (by simp)).ids _ hu id hid
      · exact argsA_ids ps us (fun y hy => hs y (by simp [hy])) hus v e id hid
    · cases hl

theorem aLoad_same (E : Env) (ty : TypeId) (a : AV) (hi : ∀ id, id ∈ topIds a → h'[id]? = h[id]?) : aLoad E ty a h' = aLoad E ty a h := by
  cases a <;> simp only [aLoad] <;> rw [hi _ (by simp [topIds])]
theorem aStore_same (E : Env) (ty : TypeId) (a v : AV) (hi : ∀ id, id ∈ topIds a → h'[id]? = h[id]?) : aStore E ty a v h' = aStore E ty a v h := by
  unfold aStore
  cases a <;> simp only [] <;> rw [hi _ (by simp [topIds])]
theorem aIndexAddr_same (E : Env) (ty : TypeId) (x i : AV) (hi : ∀ id, id ∈ topIds x → h'[id]? = h[id]?) : aIndexAddr E ty x i h' = aIndexAddr E ty x i h := by
  unfold aIndexAddr
  split <;> first | rfl | (rw [hi _ (by simp [topIds])])
theorem aSlice_same (E : Env) (ty : TypeId) (x : AV) (lo hi' : Option AV) (hi : ∀ id, id ∈ topIds x → h'[id]? = h[id]?) : aSlice E ty x lo hi' h' = aSlice E ty x lo hi' h := by
  unfold aSlice
  split <;> first | rfl | (rw [hi _ (by simp [topIds])])
theorem rowOf_same (x : AV) (hi : ∀ id, id ∈ topIds x → h'[id]? = h[id]?) : rowOf h' x = rowOf h x := by
  unfold rowOf
  split <;> first | rfl | (rw [hi _ (by simp [topIds])])
theorem moreOf_same (E : Env) (ty : TypeId) (sz : Nat) (x : AV) (hi : ∀ id, id ∈ topIds x → h'[id]? = h[id]?) : moreOf E ty h' sz x = moreOf E ty h sz x := by
  have e := rowOf_same x hi
  unfold moreOf
  split <;> first | rfl | exact e
theorem aAppend_same (E : Env) (ts : List TypeId) (us : List AV) (nw : Nat) (hi : ∀ v, v ∈ us → ∀ id, id ∈ topIds v → h'[id]? = h[id]?) : aAppend E ts us h' nw = aAppend E ts us h nw := by
  unfold aAppend
  split
  · rename_i t u s x
    have e1 := fun sz => moreOf_same E u sz x (hi x (by simp))
    simp only [e1]
    cases s with
    | sl id off len => simp only [hi (.sl id off len) (by simp) id (by simp [topIds])]
    | c v =>
      cases v with
      | lst sz x ys => cases x <;> rfl
      | _ => rfl
    | _ => rfl
  · rfl
theorem aConv_same (E : Env) (src dst : TypeId) (x : AV) (nw : Nat) (hi : ∀ id, id ∈ topIds x → h'[id]? = h[id]?) : aConv E src dst x h' nw = aConv E src dst x h nw := by
  have e := rowOf_same x hi
  unfold aConv
  split <;> first | rfl | simp only [e]

theorem evOp_same (E : Env) (op : Op) (ty : TypeId) (nw : Nat) (hs : ∀ x, x ∈ op.operands → Same t t' h h' x) : evOp E op ty t' h' nw = evOp E op ty t h nw := by
  have v1 : ∀ x, x ∈ op.operands → opd t' x = opd t x := fun x hx => (hs x hx).val
  cases op with
  | assign x =>
    have e := v1 x (by simp [Op.operands])
    unfold evOp
    split <;> rename_i hq <;> first | rfl | (exfalso; cases hq; done) | (cases hq; simp only [e]; done) | (rename_i hq2; cases hq2; simp only [e])
  | load ty' a =>
    have e := hs a (by simp [Op.operands])
    simp only [evOp, e.val]
    cases ha : opd t a with
    | none => rfl
    | some v => simp only []; rw [aLoad_same E ty' v (e.ids v ha)]
  | store ty' a x =>
    have e := hs a (by simp [Op.operands])
    simp only [evOp, e.val, v1 x (by simp [Op.operands])]
    cases ha : opd t a with
    | none => rfl
    | some v =>
      cases opd t x with
      | none => rfl
      | some y => simp only []; rw [aStore_same E ty' v y (e.ids v ha)]
  | indexAddr ty' x i =>
    have e := hs x (by simp [Op.operands])
    simp only [evOp, e.val, v1 i (by simp [Op.operands])]
    cases ha : opd t x with
    | none => rfl
    | some v =>
      cases opd t i with
      | none => rfl
      | some y => simp only []; rw [aIndexAddr_same E ty' v y (e.ids v ha)]
  | convert src dst x =>
    have e := hs x (by simp [Op.operands])
    simp only [evOp, e.val]
    cases ha : opd t x with
    | none => rfl
    | some v => simp only []; rw [aConv_same E src dst v nw (e.ids v ha)]
  | slice ty' x lo hi mx =>
    cases mx with
    | some m => rfl
    | none =>
      have e := hs x (by simp [Op.operands])
      have o1 : optA t' lo = optA t lo := by
        cases lo with
        | none => rfl
        | some y => simp only [optA, v1 y (by simp [Op.operands])]
      have o2 : optA t' hi = optA t hi := by
        cases hi with
        | none => rfl
        | some y => simp only [optA, v1 y (by simp [Op.operands])]
      simp only [evOp, e.val, o1, o2]
      cases ha : opd t x with
      | none => rfl
      | some v =>
        cases optA t lo with
        | none => rfl
        | some a =>
          cases optA t hi with
          | none => rfl
          | some b => simp only []; rw [aSlice_same E ty' v a b (e.ids v ha)]
  | build ty' ps =>
    simp only [evOp, parts_same ps.toList fun x hx => hs x (by simpa [Op.operands] using hx)]
  | buildSlice ty' len ps =>
    simp only [evOp, parts_same ps.toList fun x hx => hs x (by simpa [Op.operands] using hx)]
  | makeFunc fn first captured =>
    cases fn with
    | func f => simp only [evOp, argsA_same captured.toList fun x hx => hs x (by simp [Op.operands]; exact .inr (by simpa using hx))]
    | _ => rfl
  | call c =>
    obtain ⟨callee, args, ats⟩ := c
    cases callee with
    | builtin b =>
      have hs' : ∀ x, x ∈ args.toList → Same t t' h h' x := fun x hx => hs x (by simp [Op.operands, Call.operands]; simpa using hx)
      simp only [evOp, argsA_same args.toList hs']
      cases ha : argsA t args.toList with
      | none => rfl
      | some l =>
        cases b <;> simp only []
        rw [aAppend_same E _ l nw (argsA_ids args.toList l hs' ha)]
    | _ => rfl
  | move x => simp only [evOp, v1 x (by simp [Op.operands])]
  | pick c a b => simp only [evOp, v1 c (by simp [Op.operands]), v1 a (by simp [Op.operands]), v1 b (by simp [Op.operands])]
  | box _ x => simp only [evOp, v1 x (by simp [Op.operands])]
  | nilCheck x => simp only [evOp, v1 x (by simp [Op.operands])]
  | binOp o ty' x y z => simp only [evOp, v1 x (by simp [Op.operands]), v1 y (by simp [Op.operands])]
  | unOp o ty' x => simp only [evOp, v1 x (by simp [Op.operands])]
  | makeSlice ty' x y => simp only [evOp, v1 x (by simp [Op.operands]), v1 y (by simp [Op.operands])]
  | fieldAddr s x f => simp only [evOp, v1 x (by simp [Op.operands])]
  | index s x f => simp only [evOp, v1 x (by simp [Op.operands]), v1 f (by simp [Op.operands])]
  | extract x i => simp only [evOp, v1 x (by simp [Op.operands])]
  | _ => rfl

theorem frz_top {id sz : Nat} {xs : List (List CV)} : ∀ {l : List AV} {i : Nat}, i ∈ (frzV.frzAll id sz xs l).filterMap idOf → i ∈ l.filterMap idOf := by
  intro l i hi
  obtain ⟨v, hv, hiv⟩ := List.mem_filterMap.1 hi
  obtain ⟨y, hy, rfl⟩ := frzAll_mem hv
  refine List.mem_filterMap.2 ⟨y, hy, ?_⟩
  cases y with
  | sl j off len =>
    simp only [frzV] at hiv
    split at hiv
    · split at hiv <;> cases hiv
    · exact hiv
  | er j a b =>
    simp only [frzV] at hiv
    split at hiv <;> cases hiv
  | _ => cases hiv
theorem topIds_frz {id sz : Nat} {xs : List (List CV)} (v : AV) {i : Nat} (hi : i ∈ topIds (frzV id sz xs v)) : i ∈ topIds v := by
  cases v with
  | sl j off len =>
    simp only [frzV] at hi
    split at hi
    · split at hi <;> cases hi
    · exact hi
  | er j a b =>
    simp only [frzV] at hi
    split at hi
    · cases hi
    · exact hi
  | agg vs => exact frz_top hi
  | fn f vs => exact frz_top hi
  | tup vs => cases hi
  | _ => exact hi

theorem shutIds_same : ∀ (ids : List Nat) (t t' : List AV) (h h' : List ABlk), (∀ id, id ∈ ids → h'[id]? = h[id]?) →
    (shutIds ids t' h').2 = (shutIds ids t h).2 ∧ (∃ φ : AV → AV, (∀ i : Nat, (shutIds ids t h).1[i]? = (t[i]?).map φ) ∧ (∀ i : Nat, (shutIds ids t' h').1[i]? = (t'[i]?).map φ) ∧ ∀ v i, i ∈ topIds (φ v) → i ∈ topIds v) ∧
    ∀ j : Nat, h'[j]? = h[j]? → (app h' (shutIds ids t h).2)[j]? = (app h (shutIds ids t h).2)[j]?
  | [], t, t', h, h', _ => ⟨rfl, ⟨id, fun i => by simp [shutIds], fun i => by simp [shutIds], fun v i hi => hi⟩, fun j hj => hj⟩
  | a :: ids, t, t', h, h', hs => by
    have ha := hs a (by simp)
    cases hk : h[a]? with
    | none =>
      rw [hk] at ha
      simp only [shutIds, hk, ha]
      exact shutIds_same ids t t' h h' fun id hid => hs id (by simp [hid])
    | some k =>
      rw [hk] at ha
      have h1 : a < h.length := (List.getElem?_eq_some_iff.1 hk).1
      have h2 : a < h'.length := (List.getElem?_eq_some_iff.1 ha).1
      cases k with
      | rows sz e xs =>
        have stay : ∀ j : Nat, h'[j]? = h[j]? → (hput h' a ABlk.gone)[j]? = (hput h a ABlk.gone)[j]? := fun j hj => by
          simp only [hput, if_pos h1, if_pos h2]
          by_cases e : a = j
          · subst e; simp [h1, h2]
          · rw [List.getElem?_set_ne e, List.getElem?_set_ne e]; exact hj
        obtain ⟨g1, ⟨φ, g2, g3, g4⟩, g5⟩ := shutIds_same ids (frzV.frzAll a sz xs t) (frzV.frzAll a sz xs t') (hput h a .gone) (hput h' a .gone) fun id hid => stay id (hs id (by simp [hid]))
        simp only [shutIds, hk, ha]
        refine ⟨by rw [g1], ⟨φ ∘ frzV a sz xs, fun i => ?_, fun i => ?_, fun v i hi => topIds_frz v (g4 _ i hi)⟩, fun j hj => ?_⟩
        · rw [g2, frzAll_get, Option.map_map]
        · rw [g3, frzAll_get, Option.map_map]
        · simp only [app]; exact g5 j (stay j hj)
      | _ =>
        simp only [shutIds, hk, ha]
        exact shutIds_same ids t t' h h' fun id hid => hs id (by simp [hid])

theorem slIds_top (v : AV) {i : Nat} (h : i ∈ slIds v) : i ∈ topIds v := by
  cases v <;> first | exact h | cases h

theorem evOpC_same (E : Env) (op : Op) (ty : TypeId) (nw : Nat) (hs : ∀ x, x ∈ op.operands → Same t t' h h' x) : evOpC E op ty t' h' nw = evOpC E op ty t h nw := by
  have hids : op.operands.toList.flatMap (idsIn t') = op.operands.toList.flatMap (idsIn t) := by
    have : ∀ l : List Operand, (∀ x, x ∈ l → x ∈ op.operands) → l.flatMap (idsIn t') = l.flatMap (idsIn t) := fun l => by
      induction l with
      | nil => intro _; rfl
      | cons x l ih =>
        intro hl
        simp only [List.flatMap_cons]
        rw [ih fun y hy => hl y (by simp [hy])]
        unfold idsIn; rw [(hs x (hl x (by simp))).val]
    exact this _ fun x hx => by simpa using hx
  have hmem : ∀ id, id ∈ op.operands.toList.flatMap (idsIn t) → h'[id]? = h[id]? := fun id hid => by
    obtain ⟨x, hx, hix⟩ := List.mem_flatMap.1 hid
    unfold idsIn at hix
    split at hix
    · rename_i v hv
      exact (hs x (by simpa using hx)).ids v hv id (slIds_top v hix)
    · cases hix
  obtain ⟨g1, ⟨φ, g2, g3, g4⟩, g5⟩ := shutIds_same (op.operands.toList.flatMap (idsIn t)) t t' h h' hmem
  unfold evOpC
  rw [evOp_same E op ty nw hs, hids]
  simp only [g1]
  have : evOp E op ty (shutIds (op.operands.toList.flatMap (idsIn t)) t' h').1 (app h' (shutIds (op.operands.toList.flatMap (idsIn t)) t h).2) nw = evOp E op ty (shutIds (op.operands.toList.flatMap (idsIn t)) t h).1 (app h (shutIds (op.operands.toList.flatMap (idsIn t)) t h).2) nw := by
    refine evOp_same E op ty nw fun x hx => ⟨?_, fun v hv id hid => ?_⟩
    · cases x with
      | tmp i =>
        have := (hs _ hx).val
        simp only [opd] at this ⊢
        rw [g2, g3, this]
      | _ => rfl
    · refine g5 id ?_
      cases x with
      | tmp i =>
        simp only [opd] at hv
        rw [g2] at hv
        obtain ⟨v0, h0, rfl⟩ := Option.map_eq_some_iff.1 hv
        exact (hs _ hx).ids v0 h0 id (g4 _ _ hid)
      | const c => exact (hs _ hx).ids v hv id hid
      | global g => exact (hs _ hx).ids v hv id hid
      | func f => exact (hs _ hx).ids v hv id hid
  rw [this]
end
end Go.Ev

/-  The evaluator, part Ta: a call sees but what its arguments lead into. -/
namespace Go.Ev
open Go.RowKit
variable [Globs]

/-- The blocks of R alone; i: the number of the first. -/
def maskFrom (R : List Nat) : Nat → List ABlk → List ABlk
  | _, [] => []
  | i, k :: h => (if R.contains i then k else ABlk.gone) :: maskFrom R (i + 1) h
def mask (R : List Nat) (h : List ABlk) : List ABlk := maskFrom R 0 h

theorem maskFrom_get (R : List Nat) : ∀ (h : List ABlk) (n i : Nat), (maskFrom R n h)[i]? = (h[i]?).map fun k => if R.contains (n + i) then k else ABlk.gone
  | [], n, i => by simp [maskFrom]
  | k :: h, n, 0 => by simp [maskFrom]
  | k :: h, n, i + 1 => by
    simp only [maskFrom, List.getElem?_cons_succ]
    rw [maskFrom_get R h (n + 1) i, show n + 1 + i = n + (i + 1) by omega]
theorem mask_get (R : List Nat) (h : List ABlk) (i : Nat) : (mask R h)[i]? = (h[i]?).map fun k => if R.contains i then k else ABlk.gone := by
  unfold mask; rw [maskFrom_get]; simp
theorem mask_length (R : List Nat) (h : List ABlk) : (mask R h).length = h.length := by
  have : ∀ (h : List ABlk) n, (maskFrom R n h).length = h.length := fun h => by
    induction h with
    | nil => intro n; rfl
    | cons k h ih => intro n; simp [maskFrom, ih]
  exact this h 0
theorem born_mask {R : List Nat} {h : List ABlk} {i : Nat} (hb : born h i = true) : born (mask R h) i = true := by
  unfold born at *; rw [mask_get]
  cases hk : h[i]? with
  | none => rw [hk] at hb; cases hb
  | some k =>
    rw [hk] at hb
    simp only [Option.map_some]
    by_cases hc : R.contains i = true
    · simp only [hc, if_true]; cases k <;> first | rfl | cases hb
    · simp only [hc]; rfl
theorem mask_some {R : List Nat} {h : List ABlk} {i : Nat} {k : ABlk} (hk : (mask R h)[i]? = some k) : (R.contains i = true ∧ h[i]? = some k) ∨ k = .gone := by
  rw [mask_get] at hk
  obtain ⟨k0, h0, rfl⟩ := Option.map_eq_some_iff.1 hk
  split
  · rename_i hc; exact .inl ⟨hc, h0⟩
  · right; rfl
theorem owns_mask {R : List Nat} {h : List ABlk} {ρ : Nat → Pl} {i : Nat} (ho : owns (mask R h) ρ i) : R.contains i = true ∧ owns h ρ i := by
  obtain ⟨⟨k, hk, h1, h2⟩, hp⟩ := ho
  rcases mask_some hk with ⟨hc, h0⟩ | e
  · exact ⟨hc, ⟨k, h0, h1, h2⟩, hp⟩
  · exact absurd e h1

theorem Good.mask {P : Program} {f : FuncId} {args : List AV} {h : List ABlk} {r : AV} {R : List Nat} (G : Good P f args (mask R h) r (mask R h)) (hr : r.sc (born h) = true) : Good P f args h r h := by
  intro w N ρ vs H hsc hl hrep
  have Hm : HeapOK N (Ev.mask R h) ρ w := ⟨H.lt, fun i j hi hj => H.inj i j (owns_mask hi).2 (owns_mask hj).2, fun i hi => H.apart i (owns_mask hi).2, fun i k hk => by
    rcases mask_some hk with ⟨_, h0⟩ | e
    · exact H.own i k h0
    · subst e; trivial, fun i cs hk => by
    rcases mask_some hk with ⟨_, h0⟩ | e
    · exact AV.sc_mono.all (fun i hi => born_mask hi) cs (H.scope i cs h0)
    · (cases e), H.glob⟩
  refine (G w N ρ vs Hm (AV.sc_mono.all (fun i hi => born_mask hi) _ hsc) hl hrep).mono ?_
  rintro v w' ⟨N2, ρ2, H2, hrep2, K, _⟩
  refine ⟨⟨N2, ρ2, ⟨H2.lt, fun i j hi hj hb => ?_, fun i hi hN => ?_, fun i k hk => ?_, H.scope, H2.glob⟩, hrep2, ?_, hr⟩⟩
  · have ei := (K.rho i (born_mask (live_born hi.1))).2
    have ej := (K.rho j (born_mask (live_born hj.1))).2
    rw [ei, ej] at hb
    exact H.inj i j ⟨hi.1, by rw [← ei]; exact hi.2⟩ ⟨hj.1, by rw [← ej]; exact hj.2⟩ hb
  · have ei := (K.rho i (born_mask (live_born hi.1))).2
    have hi' : owns h ρ i := ⟨hi.1, by rw [← ei]; exact hi.2⟩
    by_cases hc : R.contains i = true
    · obtain ⟨⟨k, hk, h1, h2⟩, hp⟩ := hi
      exact H2.apart i ⟨⟨k, by rw [mask_get, hk]; simp only [Option.map_some, hc, if_true], h1, h2⟩, hp⟩ hN
    · rw [ei] at hN
      rcases K.from_ _ hN with h1 | h1 | ⟨j, hj, h1⟩
      · exact H.apart i hi' h1
      · have := own_lt H hi'; omega
      · have := H.inj j i (owns_mask hj).2 hi' h1
        subst this
        exact hc (owns_mask hj).1
  · by_cases hc : R.contains i = true
    · exact H2.own i k (by rw [mask_get, hk]; simp only [Option.map_some, hc, if_true])
    · by_cases hu : k = .unborn
      · subst hu; trivial
      · by_cases hg : k = .gone
        · subst hg; trivial
        · have hb : born h i = true := live_born ⟨k, hk, hg, hu⟩
          have ei := (K.rho i (born_mask hb)).2
          rw [ei]
          refine (H.own i k hk).mono (q := born h) (fun cs hcs => by subst hcs; exact H.scope i cs hk) (fun h1 h2 h3 => ?_) (fun b hN => K.stay b hN) (fun j hj => (K.rho j (born_mask hj)).2)
          have ho : owns h ρ i := ⟨⟨k, hk, h1, h2⟩, h3⟩
          refine K.rest _ (own_lt H ho) fun j hj e => ?_
          have := H.inj j i (owns_mask hj).2 ho e
          subst this
          exact hc (owns_mask hj).1
  · refine ⟨K.os, K.tape, K.output, K.size, fun i hi => ⟨hi, (K.rho i (born_mask hi)).2⟩, K.stay, fun b hb => ?_, fun b hb hn => K.rest b hb fun i hi => hn i (owns_mask hi).2, fun i hi => ?_⟩
    · rcases K.from_ b hb with h1 | h1 | ⟨j, hj, h1⟩
      · exact .inl h1
      · exact .inr (.inl h1)
      · exact .inr (.inr ⟨j, (owns_mask hj).2, h1⟩)
    · have ei := (K.rho i (born_mask (live_born hi.1))).2
      exact .inr ⟨i, ⟨hi.1, by rw [← ei]; exact hi.2⟩, by rw [ei]⟩

theorem mask_same {R : List Nat} {h h' : List ABlk} (hl : h'.length = h.length) (hs : ∀ i : Nat, i ∈ R → h'[i]? = h[i]?) : mask R h' = mask R h := by
  apply List.ext_getElem?
  intro i
  rw [mask_get, mask_get]
  by_cases hc : i ∈ R
  · rw [hs i hc]
  · have : R.contains i = false := by simpa using hc
    simp only [this, Bool.false_eq_true, if_false]
    rcases Nat.lt_or_ge i h.length with h1 | h1
    · rw [List.getElem?_eq_getElem h1, List.getElem?_eq_getElem (show i < h'.length by omega)]; rfl
    · rw [List.getElem?_eq_none h1, List.getElem?_eq_none (show h'.length ≤ i by omega)]

/-! # what is reached -/

def allIds : AV → List Nat
  | .sl id _ _ | .ptr id _ | .er id _ _ => [id]
  | .agg vs | .tup vs | .fn _ vs => all vs
  | _ => []
where
  all : List AV → List Nat
    | [] => []
    | v :: vs => allIds v ++ all vs
def blkIds (h : List ABlk) (i : Nat) : List Nat := match h[i]? with
  | some (.box cs) => allIds.all cs
  | _ => []
def reach : Nat → List ABlk → List Nat → List Nat
  | 0, _, ids => ids
  | n + 1, h, ids => match ids with
    | [] => []
    | i :: is => reach n h ((i :: is) ++ (i :: is).flatMap (blkIds h))

theorem reach_sub (h : List ABlk) : ∀ (n : Nat) (ids : List Nat) (i : Nat), i ∈ ids → i ∈ reach n h ids
  | 0, _, _, hi => hi
  | n + 1, [], _, hi => by cases hi
  | n + 1, a :: is, i, hi => by
    unfold reach
    exact reach_sub h n _ i (List.mem_append_left _ hi)
theorem reach_same {h h' : List ABlk} : ∀ (n : Nat) (ids : List Nat), (∀ i, i ∈ reach n h ids → h'[i]? = h[i]?) → reach n h' ids = reach n h ids
  | 0, _, _ => rfl
  | n + 1, [], _ => rfl
  | n + 1, a :: is, hs => by
    simp only [reach] at hs ⊢
    have e : (a :: is).flatMap (blkIds h') = (a :: is).flatMap (blkIds h) := by
      have : ∀ l : List Nat, (∀ i, i ∈ l → h'[i]? = h[i]?) → l.flatMap (blkIds h') = l.flatMap (blkIds h) := fun l => by
        induction l with
        | nil => intro _; rfl
        | cons x l ih =>
          intro hl
          simp only [List.flatMap_cons]
          rw [ih fun y hy => hl y (by simp [hy])]
          unfold blkIds; rw [hl x (by simp)]
      exact this _ fun i hi => hs i (reach_sub h n _ i (List.mem_append_left _ hi))
    rw [e]
    exact reach_same n _ hs

/-! # the same, reckoned -/

def CV.same : CV → CV → Bool
  | .int k n, .int k' n' => decide (k = k') && decide (n = n')
  | .bool b, .bool b' => b == b'
  | .str s, .str s' => decide (s.data.toList = s'.data.toList)
  | .nl, .nl => true
  | .lst sz x xs, .lst sz' x' xs' => decide (sz = sz') && (x == x') && same2 xs xs'
  | .fn f cs, .fn f' cs' => decide (f = f') && same1 cs cs'
  | .nfn, .nfn => true
  | .nptr, .nptr => true
  | .nif, .nif => true
  | _, _ => false
where
  same1 : List CV → List CV → Bool
    | [], [] => true
    | a :: us, b :: bs => CV.same a b && same1 us bs
    | _, _ => false
  same2 : List (List CV) → List (List CV) → Bool
    | [], [] => true
    | a :: us, b :: bs => same1 a b && same2 us bs
    | _, _ => false
def AV.same : AV → AV → Bool
  | .c v, .c v' => v.same v'
  | .agg vs, .agg vs' => sames vs vs'
  | .tup vs, .tup vs' => sames vs vs'
  | .ptr i o, .ptr i' o' => decide (i = i') && decide (o = o')
  | .sl i o l, .sl i' o' l' => decide (i = i') && decide (o = o') && decide (l = l')
  | .er i o l, .er i' o' l' => decide (i = i') && decide (o = o') && decide (l = l')
  | .rd cs, .rd cs' => CV.same.same1 cs cs'
  | .fn f cs, .fn f' cs' => decide (f = f') && sames cs cs'
  | .und, .und => true
  | .dead, .dead => true
  | _, _ => false
where
  sames : List AV → List AV → Bool
    | [], [] => true
    | a :: us, b :: bs => AV.same a b && sames us bs
    | _, _ => false
def ABlk.same : ABlk → ABlk → Bool
  | .box cs, .box cs' => AV.same.sames cs cs'
  | .rows sz e xs, .rows sz' e' xs' => decide (sz = sz') && decide (e = e') && CV.same.same2 xs xs'
  | .gone, .gone => true
  | .unborn, .unborn => true
  | _, _ => false
def sameH : List ABlk → List ABlk → Bool
  | [], [] => true
  | a :: us, b :: bs => a.same b && sameH us bs
  | _, _ => false

mutual
theorem CV.same_eq : ∀ (a b : CV), CV.same a b = true → a = b
  | .int k n, b, h => by cases b <;> simp_all [CV.same]
  | .bool x, b, h => by cases b <;> simp_all [CV.same]
  | .str s, b, h => by
    cases b <;> simp [CV.same] at h
    rename_i s'
    obtain ⟨⟨l⟩⟩ := s; obtain ⟨⟨l'⟩⟩ := s'
    simp at h; subst h; rfl
  | .nl, b, h => by cases b <;> simp_all [CV.same]
  | .lst sz x xs, b, h => by
    cases b <;> simp [CV.same] at h
    obtain ⟨⟨h1, h2⟩, h3⟩ := h
    subst h1 h2
    rw [CV.same2_eq xs _ h3]
  | .fn f cs, b, h => by
    cases b <;> simp [CV.same] at h
    obtain ⟨h1, h2⟩ := h
    subst h1
    rw [CV.same1_eq cs _ h2]
  | .nfn, b, h => by cases b <;> simp_all [CV.same]
  | .nptr, b, h => by cases b <;> simp_all [CV.same]
  | .nif, b, h => by cases b <;> simp_all [CV.same]
theorem CV.same1_eq : ∀ (a b : List CV), CV.same.same1 a b = true → a = b
  | [], b, h => by cases b <;> simp_all [CV.same.same1]
  | x :: xs, b, h => by
    cases b with
    | nil => simp [CV.same.same1] at h
    | cons y ys =>
      simp only [CV.same.same1, Bool.and_eq_true] at h
      rw [CV.same_eq x y h.1, CV.same1_eq xs ys h.2]
theorem CV.same2_eq : ∀ (a b : List (List CV)), CV.same.same2 a b = true → a = b
  | [], b, h => by cases b <;> simp_all [CV.same.same2]
  | x :: xs, b, h => by
    cases b with
    | nil => simp [CV.same.same2] at h
    | cons y ys =>
      simp only [CV.same.same2, Bool.and_eq_true] at h
      rw [CV.same1_eq x y h.1, CV.same2_eq xs ys h.2]
end
mutual
theorem AV.same_eq : ∀ (a b : AV), AV.same a b = true → a = b
  | .c v, b, h => by
    cases b <;> simp [AV.same] at h
    rw [CV.same_eq _ _ h]
  | .agg vs, b, h => by
    cases b <;> simp [AV.same] at h
    rw [AV.sames_eq vs _ h]
  | .tup vs, b, h => by
    cases b <;> simp [AV.same] at h
    rw [AV.sames_eq vs _ h]
  | .ptr i o, b, h => by cases b <;> simp_all [AV.same]
  | .sl i o l, b, h => by cases b <;> simp_all [AV.same]
  | .er i o l, b, h => by cases b <;> simp_all [AV.same]
  | .rd cs, b, h => by
    cases b <;> simp [AV.same] at h
    rw [CV.same1_eq _ _ h]
  | .fn f cs, b, h => by
    cases b <;> simp [AV.same] at h
    obtain ⟨h1, h2⟩ := h
    subst h1
    rw [AV.sames_eq cs _ h2]
  | .und, b, h => by cases b <;> simp_all [AV.same]
  | .dead, b, h => by cases b <;> simp_all [AV.same]
theorem AV.sames_eq : ∀ (a b : List AV), AV.same.sames a b = true → a = b
  | [], b, h => by cases b <;> simp_all [AV.same.sames]
  | x :: xs, b, h => by
    cases b with
    | nil => simp [AV.same.sames] at h
    | cons y ys =>
      simp only [AV.same.sames, Bool.and_eq_true] at h
      rw [AV.same_eq x y h.1, AV.sames_eq xs ys h.2]
end
theorem ABlk.same_eq (a b : ABlk) (h : a.same b = true) : a = b := by
  cases a <;> cases b <;> simp [ABlk.same] at h <;> first | rfl | skip
  · rw [AV.sames_eq _ _ h]
  · obtain ⟨⟨h1, h2⟩, h3⟩ := h
    subst h1 h2
    rw [CV.same2_eq _ _ h3]
theorem sameH_eq : ∀ (a b : List ABlk), sameH a b = true → a = b
  | [], b, h => by cases b <;> simp_all [sameH]
  | x :: xs, b, h => by
    cases b with
    | nil => simp [sameH] at h
    | cons y ys =>
      simp only [sameH, Bool.and_eq_true] at h
      rw [ABlk.same_eq x y h.1, sameH_eq xs ys h.2]

/-! # a call -/

def callOf (t : List AV) (o : Oper) : Option (FuncId × List AV) := match o.op with
  | .call c => match c.callee with
    | .value fo => match opd t fo, argsA t c.args.toList with
      | some fv, some args => match fnOf fv with
        | some (f, caps) => some (f, args ++ caps)
        | none => none
      | _, _ => none
    | _ => none
  | _ => none
def goCall (o : Oper) : Bool := match o.op with
  | .call c => match c.callee with
    | .value _ => true
    | _ => false
  | _ => false

theorem callOf_spec {t : List AV} {o : Oper} {f : FuncId} {us : List AV} (h : callOf t o = some (f, us)) : ∃ c fo fv args caps, o.op = .call c ∧ c.callee = .value fo ∧ opd t fo = some fv ∧ argsA t c.args.toList = some args ∧ fnOf fv = some (f, caps) ∧ us = args ++ caps := by
  unfold callOf at h
  split at h
  · rename_i c hc
    split at h
    · rename_i fo hfo
      split at h
      · rename_i fv args h1 h2
        split at h
        · rename_i f' caps h3
          cases h
          exact ⟨c, fo, fv, args, caps, hc, hfo, h1, h2, h3, rfl⟩
        · cases h
      · cases h
    · cases h
  · cases h
theorem callOf_same {t t' : List AV} {o : Oper} (hs : ∀ x, x ∈ o.op.operands → opd t' x = opd t x) : callOf t' o = callOf t o := by
  unfold callOf
  cases hop : o.op with
  | call c =>
    simp only []
    cases hc : c.callee with
    | value fo =>
      have hfo : fo ∈ o.op.operands := by simp [hop, Op.operands, Call.operands, hc]
      have hargs : ∀ x, x ∈ c.args.toList → x ∈ o.op.operands := fun x hx => by simp [hop, Op.operands, Call.operands, hc]; right; simpa using hx
      have ha : ∀ l : List Operand, (∀ x, x ∈ l → x ∈ o.op.operands) → argsA t' l = argsA t l := fun l => by
        induction l with
        | nil => intro _; rfl
        | cons x l ih =>
          intro hl
          unfold argsA
          rw [hs x (hl x (by simp)), ih fun y hy => hl y (by simp [hy])]
      simp only [hs fo hfo, ha _ hargs]
    | _ => rfl
  | _ => rfl

/-- The blocks that a call may look at. -/
def callReads (h : List ABlk) (args : List AV) : List Nat := reach 3 h (allIds.all args)
end Go.Ev

/-  The evaluator, part U: a region that draws its order: run once in the text's order; any order comes to the same, where what is not ordered does not touch. -/
namespace Go.Ev
open Go.RowKit
variable [Globs]

/-- Calls that leave all own blocks as they were. -/
def Oracle (P : Program) (C : FuncId → List AV → List ABlk → Option AV) : Prop := ∀ f args h r, C f args h = some r → Good P f args h r h

/-- An operation, whatever it is; calls by C. -/
def act (E : Env) (C : FuncId → List AV → List ABlk → Option AV) (ops : Array Oper) (o : Oper) (s : St) (nw : Nat) : Option (AV × List (Nat × ABlk)) :=
  match wantedA ops s.t o with
  | some false => some (.und, [])
  | some true => if goCall o then
      match callOf s.t o with
      | some (f, args) => let R := callReads s.h args
        match C f args (mask R s.h) with
        | some r => if r.sc (fun i => R.contains i && born s.h i) then some (r, []) else none
        | none => none
      | none => none
    else evOpC E o.op o.type s.t s.h nw
  | none => none

section
variable {P : Program} {Q : Exit → Act → World → Prop} {s : St}

theorem wpOp_skip {X : Ent} {ops : Array Oper} {i : Nat} {o : Oper} {a : Act} {w : World} {K : Act → World → Prop} (hi : ops[i]? = some o) (hw : wantedA ops s.t o = some false) (hs : Sim X s a w) (h : ∀ a' w', Sim X ⟨setD s.t o.dst .und, s.h⟩ a' w' → K a' w') : wpOp P ops Q i K a w := by
  unfold wpOp; rw [hi]
  simp only [wantedA_sound hs hw]
  obtain ⟨N, ρ, S⟩ := hs
  exact h _ w (Sim.put S (OpOut.quiet S.heap .und rfl) o.dst)

theorem wpOp_op {E : Env} (T : TabOK P E) {X : Ent} {ops : Array Oper} {i : Nat} {o : Oper} {a : Act} {w : World} {K : Act → World → Prop} {nw : Nat} {v : AV} {U : List (Nat × ABlk)} (hi : ops[i]? = some o) (hw : wantedA ops s.t o = some true) (hf : Fresh s.h nw) (hv : evOpC E o.op o.type s.t s.h nw = some (v, U)) (hs : Sim X s a w) (h : ∀ a' w', Sim X ⟨setD s.t o.dst v, app s.h U⟩ a' w' → K a' w') : wpOp P ops Q i K a w := by
  unfold wpOp; rw [hi]
  simp only [wantedA_sound hs hw, if_true]
  obtain ⟨N, ρ, S⟩ := hs
  refine .inl ?_
  unfold Oper.wp
  obtain ⟨nx, x, w', hr, hnx, ho⟩ := evOpC_sound T S.heap S.slots S.sc hf hv
  rw [hr]
  rcases hnx with rfl | ⟨rfl, rfl⟩
  · exact h _ w' (Sim.put S ho o.dst)
  · exact h _ w' (Sim.put S ho o.dst)

theorem wpOp_call {X : Ent} {ops : Array Oper} {i : Nat} {o : Oper} {a : Act} {w : World} {K : Act → World → Prop} {c : Call} {fo : Operand} {fv : AV} {f : FuncId} {caps args : List AV} {r : AV} {h' : List ABlk} (hi : ops[i]? = some o) (hw : wantedA ops s.t o = some true)
    (hop : o.op = .call c) (hc : c.callee = .value fo) (hf : opd s.t fo = some fv) (hfn : fnOf fv = some (f, caps)) (ha : argsA s.t c.args.toList = some args) (G : Good P f (args ++ caps) s.h r h') (hs : Sim X s a w) (h : ∀ a' w', Sim X ⟨setD s.t o.dst r, h'⟩ a' w' → K a' w') : wpOp P ops Q i K a w := by
  unfold wpOp; rw [hi]
  simp only [wantedA_sound hs hw, if_true]
  obtain ⟨N, ρ, S⟩ := hs
  refine .inl ?_
  unfold Oper.wp
  obtain ⟨vs, hvs, hl, hrep, hsc⟩ := fnOf_rep (opd_rep S.slots hf) hfn
  obtain ⟨p1, p2, p3⟩ := argsA_sound S.slots c.args.toList args ha
  have hfsc : AV.sc.scAll (born s.h) caps = true := hsc _ (opd_sc S.sc hf)
  let xs := c.args.toList.map a.eval
  have e1 : (execOp a.eval o).run P w = (callFunc f (xs ++ vs).toArray).run P w := by
    have e2 : c.args.map a.eval ++ vs.toArray = (xs ++ vs).toArray := by
      apply Array.toList_inj.1; simp [xs]
    simp [execOp, hop, resolve, hc, hvs, Deferred.ofValue, invoke]
    rw [e2]
  rw [e1]
  have e3 : xs.length = args.length := by simp [xs, p1]
  refine upon_callOut (R := fun v w' => OpOut N s.h ρ w r h' v w') (G w N ρ (xs ++ vs) S.heap ?_ (by simp [xs, p1, hl]) ?_) ?_
  · refine scAll_iff.2 fun x hx => ?_
    rcases List.mem_append.1 hx with h1 | h1
    · exact scAll_iff.1 (p3 _ S.sc) x h1
    · exact scAll_iff.1 hfsc x h1
  · intro i h1 h2
    by_cases hlt : i < args.length
    · rw [List.getElem_append_left hlt, List.getElem_append_left (by rw [e3]; exact hlt)]
      have := p2 i hlt (by rw [← p1]; exact hlt)
      simp only [xs, List.getElem_map]
      exact this
    · have hge : args.length ≤ i := by omega
      rw [List.getElem_append_right hge, List.getElem_append_right (by omega)]
      have := hrep (i - args.length) (by simp at h1; omega) (by simp [e3] at h2; omega)
      simpa [e3] using this
  · intro v w' ho
    exact h _ w' (Sim.put S ho o.dst)

theorem wpOp_act {E : Env} (T : TabOK P E) {C : FuncId → List AV → List ABlk → Option AV} (hC : Oracle P C) {X : Ent} {ops : Array Oper} {i : Nat} {o : Oper} {a : Act} {w : World} {K : Act → World → Prop} {nw : Nat} {v : AV} {U : List (Nat × ABlk)} (hi : ops[i]? = some o) (hf : Fresh s.h nw) (hv : act E C ops o s nw = some (v, U)) (hs : Sim X s a w) (h : ∀ a' w', Sim X ⟨setD s.t o.dst v, app s.h U⟩ a' w' → K a' w') : wpOp P ops Q i K a w := by
  unfold act at hv
  split at hv
  · rename_i hw
    cases hv
    exact wpOp_skip hi hw hs h
  · rename_i hw
    split at hv
    · split at hv
      · rename_i f args hc
        simp only at hv
        split at hv
        · rename_i r hr
          split at hv
          · rename_i hsc
            cases hv
            obtain ⟨c, fo, fv, as1, caps, q1, q2, q3, q4, q5, rfl⟩ := callOf_spec hc
            exact wpOp_call hi hw q1 q2 q3 q5 q4 (Good.mask (hC _ _ _ _ hr) (AV.sc_mono (fun i hi => by simp only [Bool.and_eq_true] at hi; exact hi.2) _ hsc)) hs h
          · cases hv
        · cases hv
      · cases hv
    · exact wpOp_op T hi hw hf hv hs h
  · cases hv
end

/-! # what an operation looks at -/

def idsOf (t : List AV) (x : Operand) : List Nat := match opd t x with
  | some v => topIds v
  | none => []
def readsOf (s : St) (o : Oper) : List Nat := if goCall o then
    match callOf s.t o with
    | some (_, args) => callReads s.h args
    | none => []
  else o.op.operands.toList.flatMap (idsOf s.t)

theorem act_same (E : Env) (C : FuncId → List AV → List ABlk → Option AV) (ops : Array Oper) (o : Oper) {s s' : St} (nw : Nat) (hl : s'.h.length = s.h.length) (ht : ∀ d, d ∈ o.looksAt ops → s'.t[d]? = s.t[d]?) (hh : ∀ id, id ∈ readsOf s o → s'.h[id]? = s.h[id]?) : act E C ops o s' nw = act E C ops o s nw := by
  have hval : ∀ x, x ∈ o.op.operands → opd s'.t x = opd s.t x := fun x hx => by
    cases x with
    | tmp d => exact ht d (List.mem_append_left _ (List.mem_filterMap.2 ⟨.tmp d, by simpa using hx, rfl⟩))
    | _ => rfl
  have hw : wantedA ops s'.t o = wantedA ops s.t o := by
    unfold wantedA
    cases hg : o.guard with
    | none => rfl
    | some gw =>
      obtain ⟨g, want⟩ := gw
      simp only []
      cases hd : (ops[g]?).bind (·.dst) with
      | none => rfl
      | some d => simp only [Option.bind_some]; rw [ht d (by simp [Oper.looksAt, hg, hd])]
  unfold act
  rw [hw]
  cases wantedA ops s.t o with
  | none => rfl
  | some b =>
    cases b with
    | false => rfl
    | true =>
      simp only []
      cases hg : goCall o with
      | true =>
        simp only [if_true]
        rw [callOf_same hval]
        cases hc : callOf s.t o with
        | none => rfl
        | some fa =>
          obtain ⟨f, args⟩ := fa
          simp only []
          have hr : readsOf s o = callReads s.h args := by simp [readsOf, hg, hc]
          rw [hr] at hh
          have e1 : callReads s'.h args = callReads s.h args := reach_same 3 _ hh
          rw [e1, mask_same hl hh]
          have e2 : (fun i => (callReads s.h args).contains i && born s'.h i) = (fun i => (callReads s.h args).contains i && born s.h i) := funext fun i => by
            by_cases hi : i ∈ callReads s.h args
            · have := hh i hi
              unfold born; rw [this]
            · have : (callReads s.h args).contains i = false := by simpa using hi
              simp only [this, Bool.false_and]
          rw [e2]
      | false =>
        simp only [Bool.false_eq_true, if_false]
        refine evOpC_same E o.op o.type nw fun x hx => ⟨hval x hx, fun v hv id hid => hh id ?_⟩
        simp only [readsOf, hg, Bool.false_eq_true, if_false]
        exact List.mem_flatMap.2 ⟨x, by simpa using hx, by unfold idsOf; rw [hv]; exact hid⟩
end Go.Ev

/-  The evaluator, part V: any order of a region comes to what the text's order comes to, where what is not ordered does not touch. -/
namespace Go.Ev
open Go.RowKit
variable [Globs]

/-- What an operation came to in the text's order: its value, the blocks that it turned or made, those that it looked at. -/
structure Rec where
  v : AV
  U : List (Nat × ABlk)
  R : List Nat

def putR (ops : Array Oper) (rs : List Rec) (s : St) (i : Nat) : St := match ops[i]?, rs[i]? with
  | some o, some r => ⟨setD s.t o.dst r.v, app s.h r.U⟩
  | _, _ => s
/-- What the first n operations come to, those of D alone. -/
def stD (ops : Array Oper) (rs : List Rec) (s0 : St) (D : Nat → Bool) : Nat → St
  | 0 => s0
  | n + 1 => if D n then putR ops rs (stD ops rs s0 D n) n else stD ops rs s0 D n

def dstOf (ops : Array Oper) (i : Nat) : Option Tmp := (ops[i]?).bind (·.dst)
def domOf (rs : List Rec) (i : Nat) : List Nat := match rs[i]? with
  | some r => r.U.map (·.1)
  | none => []
def Bnd (rs : List Rec) (m : Nat) : Prop := ∀ i id, id ∈ domOf rs i → id < m

theorem app_length : ∀ (U : List (Nat × ABlk)) (h : List ABlk), (∀ p, p ∈ U → p.1 < h.length) → (app h U).length = h.length
  | [], _, _ => rfl
  | (i, k) :: U, h, hb => by
    have h1 : i < h.length := hb (i, k) (by simp)
    simp only [app, hput, if_pos h1]
    rw [app_length U _ fun p hp => by simpa using hb p (by simp [hp])]
    simp
theorem app_get : ∀ (U : List (Nat × ABlk)) (h h' : List ABlk) (id : Nat), h.length = h'.length → (∀ p, p ∈ U → p.1 < h.length) → (id ∈ U.map (·.1) ∨ h[id]? = h'[id]?) → (app h U)[id]? = (app h' U)[id]?
  | [], h, h', id, _, _, hi => by
    rcases hi with hi | hi
    · simp at hi
    · exact hi
  | (i, k) :: U, h, h', id, hl, hb, hi => by
    have h1 : i < h.length := hb (i, k) (by simp)
    simp only [app, hput, if_pos h1, if_pos (show i < h'.length by omega)]
    refine app_get U _ _ id (by simp [hl]) (fun p hp => by simpa using hb p (by simp [hp])) ?_
    by_cases e : id = i
    · subst e; right; simp [h1, show id < h'.length by omega]
    · rcases hi with hi | hi
      · simp only [List.map_cons, List.mem_cons] at hi
        exact .inl (hi.resolve_left e)
      · right; rw [List.getElem?_set_ne (Ne.symm e), List.getElem?_set_ne (Ne.symm e)]; exact hi
theorem app_skip : ∀ (U : List (Nat × ABlk)) (h : List ABlk) (id : Nat), (∀ p, p ∈ U → p.1 < h.length) → id ∉ U.map (·.1) → (app h U)[id]? = h[id]?
  | [], _, _, _, _ => rfl
  | (i, k) :: U, h, id, hb, hn => by
    have h1 : i < h.length := hb (i, k) (by simp)
    simp only [List.map_cons, List.mem_cons, not_or] at hn
    simp only [app, hput, if_pos h1]
    rw [app_skip U _ id (fun p hp => by simpa using hb p (by simp [hp])) hn.2, List.getElem?_set_ne (Ne.symm hn.1)]
theorem app_set : ∀ (U : List (Nat × ABlk)) (h : List ABlk) (i : Nat) (k : ABlk), (∀ p, p ∈ U → p.1 < h.length) → i < h.length → i ∉ U.map (·.1) → app (h.set i k) U = (app h U).set i k
  | [], _, _, _, _, _, _ => rfl
  | (j, k') :: U, h, i, k, hb, hi, hn => by
    have h1 : j < h.length := hb (j, k') (by simp)
    simp only [List.map_cons, List.mem_cons, not_or] at hn
    simp only [app, hput, if_pos h1, if_pos (show j < (h.set i k).length by simpa using h1)]
    rw [List.set_comm _ _ hn.1]
    exact app_set U _ i k (fun p hp => by simpa using hb p (by simp [hp])) (by simpa using hi) hn.2
theorem app_comm : ∀ (U V : List (Nat × ABlk)) (h : List ABlk), (∀ p, p ∈ U → p.1 < h.length) → (∀ p, p ∈ V → p.1 < h.length) → (∀ i, i ∈ U.map (·.1) → i ∉ V.map (·.1)) → app (app h U) V = app (app h V) U
  | [], _, _, _, _, _ => rfl
  | (i, k) :: U, V, h, hU, hV, hd => by
    have h1 : i < h.length := hU (i, k) (by simp)
    have h2 := app_length V h hV
    simp only [app, hput, if_pos h1, if_pos (show i < (app h V).length by omega)]
    rw [← app_set V h i k hV h1 (hd i (by simp))]
    exact app_comm U V _ (fun p hp => by simpa using hU p (by simp [hp])) (fun p hp => by simpa using hV p hp) fun j hj => hd j (by simp only [List.map_cons, List.mem_cons]; exact .inr hj)

theorem setD_length (t : List AV) (d : Option Tmp) (v : AV) : (setD t d v).length = t.length := by cases d <;> simp [setD]
theorem setD_comm (t : List AV) {d e : Option Tmp} (u v : AV) (h : ∀ x, d = some x → e ≠ some x) : setD (setD t d u) e v = setD (setD t e v) d u := by
  cases d with
  | none => rfl
  | some d =>
    cases e with
    | none => rfl
    | some e =>
      have : d ≠ e := fun he => h d rfl (by rw [he])
      simp only [setD]
      rw [List.set_comm _ _ this]

section
variable {ops : Array Oper} {rs : List Rec} {s0 : St}

theorem dom_bnd {rs : List Rec} {m i : Nat} {r : Rec} (hb : Bnd rs m) (hr : rs[i]? = some r) : ∀ p, p ∈ r.U → p.1 < m := fun p hp =>
  hb i p.1 (by unfold domOf; rw [hr]; exact List.mem_map.2 ⟨p, hp, rfl⟩)
theorem putR_len {m : Nat} (hb : Bnd rs m) {s : St} (hs : s.h.length = m) (i : Nat) : (putR ops rs s i).h.length = m := by
  unfold putR; split
  · rename_i o r _ hr
    simp only []
    rw [app_length _ _ fun p hp => by rw [hs]; exact dom_bnd hb hr p hp]; exact hs
  · exact hs
theorem stD_len {m : Nat} (hb : Bnd rs m) (hs : s0.h.length = m) (D : Nat → Bool) : ∀ n, (stD ops rs s0 D n).h.length = m
  | 0 => hs
  | n + 1 => by
    simp only [stD]; split
    · exact putR_len hb (stD_len hb hs D n) n
    · exact stD_len hb hs D n
theorem stD_tlen (D : Nat → Bool) : ∀ n, (stD ops rs s0 D n).t.length = s0.t.length
  | 0 => rfl
  | n + 1 => by
    simp only [stD]; split
    · unfold putR; split
      · simp only [setD_length]; exact stD_tlen D n
      · exact stD_tlen D n
    · exact stD_tlen D n

theorem setD_get {t t' : List AV} {d : Option Tmp} {v : AV} {x : Nat} (hl : t.length = t'.length) (h : d = some x ∨ t[x]? = t'[x]?) : (setD t d v)[x]? = (setD t' d v)[x]? := by
  cases d with
  | none =>
    rcases h with h | h
    · cases h
    · exact h
  | some d =>
    simp only [setD]
    by_cases e : d = x
    · subst e
      rcases Nat.lt_or_ge d t.length with h1 | h1
      · have h2 : d < t'.length := by rw [← hl]; exact h1
        rw [List.getElem?_set_self h1, List.getElem?_set_self h2]
      · have h2 : t'.length ≤ d := by rw [← hl]; exact h1
        rw [List.getElem?_eq_none (by simpa using h1), List.getElem?_eq_none (by simpa using h2)]
    · rw [List.getElem?_set_ne e, List.getElem?_set_ne e]
      rcases h with h | h
      · exact absurd (Option.some.inj h) e
      · exact h
theorem setD_skip {t : List AV} {d : Option Tmp} {v : AV} {x : Nat} (h : d ≠ some x) : (setD t d v)[x]? = t[x]? := by
  cases d with
  | none => rfl
  | some d => simp only [setD]; rw [List.getElem?_set_ne (fun e => h (by rw [e]))]

theorem stD_slot {d : Nat} {D D' : Nat → Bool} : ∀ n, (∀ i, i < n → dstOf ops i = some d → D i = D' i) → (stD ops rs s0 D n).t[d]? = (stD ops rs s0 D' n).t[d]?
  | 0, _ => rfl
  | n + 1, h => by
    have ih := stD_slot (d := d) (D := D) (D' := D') n fun i hi => h i (by omega)
    have put : ∀ s : St, dstOf ops n ≠ some d → (putR ops rs s n).t[d]? = s.t[d]? := fun s hne => by
      unfold putR; split
      · rename_i o r ho _
        exact setD_skip (by simpa [dstOf, ho] using hne)
      · rfl
    simp only [stD]
    by_cases hd : dstOf ops n = some d
    · have := h n (by omega) hd
      rw [this]
      split
      · unfold putR; split
        · rename_i o r ho _
          exact setD_get (by rw [stD_tlen, stD_tlen]) (.inl (by simpa [dstOf, ho] using hd))
        · exact ih
      · exact ih
    · split <;> split <;> (try rw [put _ hd]) <;> (try rw [put _ hd]) <;> exact ih

theorem stD_blk {m id : Nat} (hb : Bnd rs m) (hs : s0.h.length = m) {D D' : Nat → Bool} : ∀ n, (∀ i, i < n → id ∈ domOf rs i → D i = D' i) → (stD ops rs s0 D n).h[id]? = (stD ops rs s0 D' n).h[id]?
  | 0, _ => rfl
  | n + 1, h => by
    have ih := stD_blk (id := id) hb hs (D := D) (D' := D') n fun i hi => h i (by omega)
    have put : ∀ s : St, s.h.length = m → id ∉ domOf rs n → (putR ops rs s n).h[id]? = s.h[id]? := fun s hl hne => by
      unfold putR; split
      · rename_i o r _ hr
        exact app_skip _ _ _ (fun p hp => by rw [hl]; exact dom_bnd hb hr p hp) (by simpa [domOf, hr] using hne)
      · rfl
    simp only [stD]
    by_cases hd : id ∈ domOf rs n
    · have := h n (by omega) hd
      rw [this]
      split
      · unfold putR; split
        · rename_i o r _ hr
          refine app_get _ _ _ _ (by rw [stD_len hb hs, stD_len hb hs]) (fun p hp => by rw [stD_len hb hs]; exact dom_bnd hb hr p hp) (.inl ?_)
          unfold domOf at hd; rw [hr] at hd; exact hd
        · exact ih
      · exact ih
    · have l1 := stD_len (ops := ops) hb hs D n
      have l2 := stD_len (ops := ops) hb hs D' n
      split <;> split <;> (try rw [put _ l1 hd]) <;> (try rw [put _ l2 hd]) <;> exact ih

theorem putR_comm {m : Nat} (hb : Bnd rs m) {s : St} (hs : s.h.length = m) (i j : Nat) (hd : ∀ x, dstOf ops i = some x → dstOf ops j ≠ some x) (hU : ∀ x, x ∈ domOf rs i → x ∉ domOf rs j) : putR ops rs (putR ops rs s i) j = putR ops rs (putR ops rs s j) i := by
  cases ho : ops[i]? with
  | none => simp [putR, ho]
  | some o =>
    cases hp : ops[j]? with
    | none => simp [putR, hp]
    | some p =>
      cases hr : rs[i]? with
      | none => simp [putR, hr]
      | some r =>
        cases hq : rs[j]? with
        | none => simp [putR, hq]
        | some q =>
          simp only [putR, ho, hp, hr, hq]
          rw [setD_comm _ _ _ (by simpa [dstOf, ho, hp] using hd), app_comm _ _ _ (fun x hx => by rw [hs]; exact dom_bnd hb hr x hx) (fun x hx => by rw [hs]; exact dom_bnd hb hq x hx) (by simpa [domOf, hr, hq] using hU)]

theorem stD_insert {m : Nat} (hb : Bnd rs m) (hs : s0.h.length = m) {D D' : Nat → Bool} {j : Nat} (hj : D j = false) (hj' : D' j = true) (he : ∀ i, i ≠ j → D' i = D i) : ∀ n, j < n →
    (∀ i, j < i → i < n → D i = true → (∀ x, dstOf ops j = some x → dstOf ops i ≠ some x) ∧ (∀ x, x ∈ domOf rs j → x ∉ domOf rs i)) → stD ops rs s0 D' n = putR ops rs (stD ops rs s0 D n) j
  | 0, h, _ => by omega
  | n + 1, h, hc => by
    have below : ∀ k, k ≤ j → stD ops rs s0 D' k = stD ops rs s0 D k := by
      intro k
      induction k with
      | zero => intro _; rfl
      | succ k ih => intro hk; simp only [stD]; rw [ih (by omega), he k (by omega)]
    by_cases e : n = j
    · subst e
      simp only [stD, hj, hj', if_true, below n (Nat.le_refl _)]; rfl
    · have ih := stD_insert hb hs hj hj' he n (by omega) fun i h1 h2 => hc i h1 (by omega)
      simp only [stD, he n e]
      split
      · rename_i hD
        rw [ih]
        obtain ⟨c1, c2⟩ := hc n (by omega) (by omega) hD
        exact putR_comm hb (stD_len hb hs D n) j n c1 c2
      · exact ih

end

/-! # what is ordered -/

def preds (ops : Array Oper) (j : Nat) : List Nat := match ops[j]? with
  | some o => o.after.toList.filterMap fun e => if Region.binds .any e then some e.on else none
  | none => []

/-- Who comes ahead of each, one number's bits. -/
def ancT (ops : Array Oper) : Nat → List Nat
  | 0 => []
  | n + 1 => let T := ancT ops n; T ++ [(preds ops n).foldl (fun m p => m ||| (1 <<< p) ||| (T.getD p 0)) 0]

def predsOK (ops : Array Oper) : Nat → Bool
  | 0 => true
  | n + 1 => predsOK ops n && (preds ops n).all (· < n)

theorem ancT_length (ops : Array Oper) : ∀ n, (ancT ops n).length = n
  | 0 => rfl
  | n + 1 => by simp [ancT, ancT_length ops n]

theorem foldl_bit (T : List Nat) (i : Nat) : ∀ (l : List Nat) (m : Nat), (l.foldl (fun m p => m ||| (1 <<< p) ||| (T.getD p 0)) m).testBit i = true → m.testBit i = true ∨ ∃ p, p ∈ l ∧ (p = i ∨ (T.getD p 0).testBit i = true)
  | [], m, h => .inl h
  | q :: l, m, h => by
    rcases foldl_bit T i l _ h with h1 | ⟨p, hp, h1⟩
    · simp only [Nat.testBit_or, Bool.or_eq_true] at h1
      rcases h1 with (h1 | h1) | h1
      · exact .inl h1
      · refine .inr ⟨q, by simp, .inl ?_⟩
        rw [Nat.shiftLeft_eq, Nat.one_mul, Nat.testBit_two_pow] at h1
        exact of_decide_eq_true h1
      · exact .inr ⟨q, by simp, .inr h1⟩
    · exact .inr ⟨p, by simp [hp], h1⟩

theorem predsOK_lt {ops : Array Oper} : ∀ {n : Nat}, predsOK ops n = true → ∀ j, j < n → ∀ p, p ∈ preds ops j → p < j
  | 0, _, j, hj, _, _ => by omega
  | n + 1, h, j, hj, p, hp => by
    simp only [predsOK, Bool.and_eq_true] at h
    by_cases e : j = n
    · subst e; simpa using List.all_eq_true.1 h.2 p hp
    · exact predsOK_lt h.1 j (by omega) p hp

theorem anc_done {ops : Array Oper} {D : Nat → Bool} (hD : ∀ j, D j = true → ∀ p, p ∈ preds ops j → D p = true) : ∀ (n j : Nat) (i : Nat), j < n → ((ancT ops n).getD j 0).testBit i = true → (∀ p, p ∈ preds ops j → D p = true) → D i = true
  | 0, j, i, hj, _, _ => by omega
  | n + 1, j, i, hj, hb, hp => by
    by_cases e : j = n
    · subst e
      simp only [ancT] at hb
      rw [List.getD_eq_getElem?_getD, List.getElem?_append_right (by rw [ancT_length]; exact Nat.le_refl _), ancT_length] at hb
      simp only [Nat.sub_self, List.getElem?_cons_zero, Option.getD_some] at hb
      rcases foldl_bit _ _ _ _ hb with h1 | ⟨p, hpm, h1⟩
      · simp at h1
      · rcases h1 with rfl | h1
        · exact hp p hpm
        · have hlt : p < j := by
            rcases Nat.lt_or_ge p j with h2 | h2
            · exact h2
            · rw [List.getD_eq_getElem?_getD, List.getElem?_eq_none (by rw [ancT_length]; exact h2)] at h1
              simp at h1
          exact anc_done hD j p i hlt h1 (hD p (hp p hpm))
    · simp only [ancT] at hb
      rw [List.getD_eq_getElem?_getD, List.getElem?_append_left (by rw [ancT_length]; omega), ← List.getD_eq_getElem?_getD] at hb
      exact anc_done hD n j i (by omega) hb hp

/-! # the checks -/

def lookAt (ops : Array Oper) (i : Nat) : List Tmp := match ops[i]? with
  | some o => o.looksAt ops
  | none => []
def slotFree (ops : Array Oper) (i j : Nat) : Bool :=
  (match dstOf ops i with
   | some d => !(lookAt ops j).contains d && !(dstOf ops j == some d)
   | none => true) &&
  (match dstOf ops j with
   | some d => !(lookAt ops i).contains d
   | none => true)
def memFree (r q : Rec) : Bool := r.U.all (fun p => !q.R.contains p.1 && !(q.U.map (·.1)).contains p.1) && q.U.all (fun p => !r.R.contains p.1)

def allPairs (f : Nat → Nat → Bool) (n : Nat) : Bool := (List.range n).all fun j => (List.range j).all fun i => f i j
theorem allPairs_spec {f : Nat → Nat → Bool} {n : Nat} (h : allPairs f n = true) {i j : Nat} (hij : i < j) (hj : j < n) : f i j = true :=
  List.all_eq_true.1 (List.all_eq_true.1 h j (List.mem_range.2 hj)) i (List.mem_range.2 hij)

/-- What hangs on the code alone. -/
def slotsOK (ops : Array Oper) : Bool := predsOK ops ops.size && (let T := ancT ops ops.size; allPairs (fun i j => (T.getD j 0).testBit i || slotFree ops i j) ops.size)
def recAt (rs : List Rec) (i : Nat) : Rec := rs.getD i ⟨.und, [], []⟩
def memOK (ops : Array Oper) (rs : List Rec) : Bool := rs.all (fun r => r.U.isEmpty) || (let T := ancT ops ops.size; allPairs (fun i j => memFree (recAt rs i) (recAt rs j) || (T.getD j 0).testBit i) ops.size)
theorem memOK_spec {ops : Array Oper} {rs : List Rec} (h : memOK ops rs = true) {i j : Nat} (hij : i < j) (hj : j < ops.size) : memFree (recAt rs i) (recAt rs j) = true ∨ ((ancT ops ops.size).getD j 0).testBit i = true := by
  simp only [memOK, Bool.or_eq_true] at h
  rcases h with h | h
  · left
    have hU : ∀ k, (recAt rs k).U = [] := fun k => by
      unfold recAt
      rw [List.getD_eq_getElem?_getD]
      cases hk : rs[k]? with
      | none => rfl
      | some r =>
        have := List.all_eq_true.1 h r (List.mem_of_getElem? hk)
        simpa using this
    simp only [memFree, hU]
    rfl
  · have := allPairs_spec h hij hj
    simpa using this
end Go.Ev

/-  The evaluator, part W: the region that draws its order. -/
namespace Go.Ev
open Go.RowKit
variable [Globs]

/-- The text's order, run: what each operation came to, and the end. b: the first number for new blocks, m: how many numbers there are. -/
def runT (E : Env) (C : FuncId → List AV → List ABlk → Option AV) (ops : Array Oper) (b m : Nat) : Nat → Nat → St → Option (List Rec × St)
  | 0, _, s => some ([], s)
  | k + 1, i, s => match ops[i]? with
    | none => none
    | some o => match act E C ops o s (b + i) with
      | none => none
      | some (v, U) => match s.h[b + i]? with
        | some .unborn => if U.all (fun p => decide (p.1 < m)) then
            match runT E C ops b m k (i + 1) ⟨setD s.t o.dst v, app s.h U⟩ with
            | some (rs, s') => some (⟨v, U, (b + i) :: readsOf s o⟩ :: rs, s')
            | none => none
          else none
        | _ => none

structure TextAt (E : Env) (C : FuncId → List AV → List ABlk → Option AV) (ops : Array Oper) (b m : Nat) (s : St) (i : Nat) (o : Oper) (r : Rec) : Prop where
  oper : ops[i]? = some o
  acts : act E C ops o s (b + i) = some (r.v, r.U)
  fresh : s.h[b + i]? = some .unborn
  bnd : ∀ p, p ∈ r.U → p.1 < m
  reads : r.R = (b + i) :: readsOf s o

theorem runT_spec {E : Env} {C : FuncId → List AV → List ABlk → Option AV} {ops : Array Oper} {b m : Nat} {s0 : St} {all : List Rec} : ∀ (k i : Nat) (s : St) (pre suf : List Rec) (s' : St), runT E C ops b m k i s = some (suf, s') → all = pre ++ suf → pre.length = i → s = stD ops all s0 (fun _ => true) i →
    s' = stD ops all s0 (fun _ => true) (i + k) ∧ all.length = i + k ∧ ∀ j, i ≤ j → j < i + k → ∃ o r, all[j]? = some r ∧ TextAt E C ops b m (stD ops all s0 (fun _ => true) j) j o r
  | 0, i, s, pre, suf, s', h, ha, hp, hs => by
    simp only [runT, Option.some.injEq, Prod.mk.injEq] at h
    obtain ⟨rfl, rfl⟩ := h
    exact ⟨hs, by simp [ha, hp], fun j h1 h2 => by omega⟩
  | k + 1, i, s, pre, suf, s', h, ha, hp, hs => by
    unfold runT at h
    split at h
    · cases h
    · rename_i o ho
      split at h
      · cases h
      · rename_i v U hact
        split at h
        · rename_i hfr
          split at h
          · rename_i hU
            split at h
            · rename_i rs s1 hrec
              cases h
              have hr : all[i]? = some ⟨v, U, (b + i) :: readsOf s o⟩ := by rw [ha, List.getElem?_append_right (by omega), hp]; simp
              have hnext : (⟨setD s.t o.dst v, app s.h U⟩ : St) = stD ops all s0 (fun _ => true) (i + 1) := by
                simp only [stD, if_true, putR, ho, hr, ← hs]
              obtain ⟨h1, h2, h3⟩ := runT_spec k (i + 1) _ (pre ++ [⟨v, U, (b + i) :: readsOf s o⟩]) rs s' hrec (by rw [ha]; simp) (by simp [hp]) hnext
              refine ⟨by rw [h1, show i + 1 + k = i + (k + 1) by omega], by omega, fun j j1 j2 => ?_⟩
              by_cases e : j = i
              · subst e
                refine ⟨o, _, hr, ho, ?_, ?_, ?_, ?_⟩
                · rw [← hs]; exact hact
                · rw [← hs]; exact hfr
                · intro p hp'; simpa using List.all_eq_true.1 hU p hp'
                · rw [← hs]
              · exact h3 j (by omega) (by omega)
            · cases h
          · cases h
        · cases h

/-! # blocks that are not yet -/

theorem Sim.pad {X : Ent} {t : List AV} {h h' : List ABlk} {a : Act} {w : World} (hs : Sim X ⟨t, h⟩ a w) (hq : ∀ i : Nat, h'[i]? = h[i]? ∨ ((h[i]? = none ∨ h[i]? = some ABlk.unborn) ∧ (h'[i]? = none ∨ h'[i]? = some ABlk.unborn))) : Sim X ⟨t, h'⟩ a w := by
  obtain ⟨N, ρ, S⟩ := hs
  have hborn : born h' = born h := funext fun i => by
    unfold born
    rcases hq i with e | ⟨e1 | e1, e2 | e2⟩
    · rw [e]
    · rw [e1, e2]
    · rw [e1, e2]
    · rw [e1, e2]
    · rw [e1, e2]
  have hget : ∀ (i : Nat) (k : ABlk), h'[i]? = some k → h[i]? = some k ∨ k = .unborn := fun i k hk => by
    rcases hq i with e | ⟨_, e2 | e2⟩
    · exact .inl (e ▸ hk)
    · rw [e2] at hk; cases hk
    · rw [e2] at hk; cases hk; exact .inr rfl
  have hown : ∀ i, owns h' ρ i → owns h ρ i := fun i ⟨⟨k, hk, h1, h2⟩, hp⟩ => ⟨⟨k, (hget i k hk).resolve_right h2, h1, h2⟩, hp⟩
  refine ⟨N, ρ, ⟨S.heap.lt, fun i j hi hj => S.heap.inj i j (hown i hi) (hown j hj), fun i hi => S.heap.apart i (hown i hi), fun i k hk => ?_, fun i cs hk => ?_, S.heap.glob⟩, S.slots, ?_, ?_, S.defers⟩
  · rcases hget i k hk with h1 | rfl
    · exact S.heap.own i k h1
    · trivial
  · rcases hget i _ hk with h1 | h1
    · show AV.sc.scAll (born h') cs = true
      rw [hborn]; exact S.heap.scope i cs h1
    · cases h1
  · show AV.sc.scAll (born h') t = true
    rw [hborn]; exact S.sc
  · have K := S.kept
    refine ⟨K.os, K.tape, K.output, K.size, fun i hi => ⟨?_, (K.rho i hi).2⟩, K.stay, K.from_, K.rest, fun i hi => K.new i (hown i hi)⟩
    show born h' i = true
    rw [hborn]; exact (K.rho i hi).1

theorem Sim.drew {X : Ent} {s : St} {a : Act} {w : World} (hs : Sim X s a w) (k : Nat) : Sim X s a { w with drawn := k } := by
  obtain ⟨N, ρ, S⟩ := hs
  have hst : ∀ b, N b → N b ∧ ({ w with drawn := k } : World).heap[b]? = w.heap[b]? := fun b hb => ⟨hb, rfl⟩
  have hm : Made w { w with drawn := k } := ⟨rfl, rfl, rfl, Nat.le_refl _, fun _ _ => rfl⟩
  obtain ⟨H, K⟩ := S.heap.made hm
  exact ⟨N, ρ, H, S.slots.mono S.sc hst fun _ _ => rfl, S.sc, S.kept.trans K, S.defers⟩

def isUnborn : ABlk → Bool
  | .unborn => true
  | _ => false
/-- The numbers at the end that were not used. -/
def trimU : List ABlk → List ABlk
  | [] => []
  | k :: h => match trimU h with
    | [] => if isUnborn k then [] else [k]
    | l => k :: l
theorem trimU_get : ∀ (h : List ABlk) (i : Nat), (trimU h)[i]? = h[i]? ∨ ((h[i]? = none ∨ h[i]? = some ABlk.unborn) ∧ ((trimU h)[i]? = none ∨ (trimU h)[i]? = some ABlk.unborn))
  | [], _ => .inl rfl
  | k :: h, i => by
    unfold trimU
    split
    · rename_i he
      have ih : ∀ j : Nat, (([] : List ABlk))[j]? = h[j]? ∨ ((h[j]? = none ∨ h[j]? = some ABlk.unborn)) := fun j => by
        rcases trimU_get h j with h1 | h1
        · rw [he] at h1; exact .inl h1
        · exact .inr h1.1
      split
      · rename_i hk
        cases k <;> simp [isUnborn] at hk
        cases i with
        | zero => right; simp
        | succ i =>
          rcases ih i with h1 | h1
          · left; simpa using h1
          · right; exact ⟨by simpa using h1, by simp⟩
      · cases i with
        | zero => left; simp
        | succ i =>
          rcases ih i with h1 | h1
          · left; simpa using h1
          · right; exact ⟨by simpa using h1, by simp⟩
    · cases i with
      | zero => left; simp
      | succ i => simpa using trimU_get h i

/-! # any order -/

def cntD (D : Nat → Bool) : Nat → Nat
  | 0 => 0
  | n + 1 => cntD D n + if D n then 0 else 1
theorem cntD_zero {D : Nat → Bool} : ∀ {n : Nat}, cntD D n = 0 → ∀ i, i < n → D i = true
  | 0, _, i, hi => by omega
  | n + 1, h, i, hi => by
    simp only [cntD] at h
    by_cases e : i = n
    · subst e
      cases hd : D i
      · rw [hd] at h; simp at h
      · rfl
    · exact cntD_zero (D := D) (n := n) (by omega) i (by omega)
theorem cntD_set {D D' : Nat → Bool} {j : Nat} (hj : D j = false) (hj' : D' j = true) (he : ∀ i, i ≠ j → D' i = D i) : ∀ n, (n ≤ j → cntD D' n = cntD D n) ∧ (j < n → cntD D' n + 1 = cntD D n)
  | 0 => ⟨fun _ => rfl, fun h => by omega⟩
  | n + 1 => by
    obtain ⟨h1, h2⟩ := cntD_set hj hj' he n
    refine ⟨fun hn => ?_, fun hn => ?_⟩
    · simp only [cntD]; rw [h1 (by omega), he n (by omega)]
    · by_cases e : n = j
      · subst e
        simp only [cntD, hj, hj']; rw [h1 (Nat.le_refl _)]; simp
      · simp only [cntD]; rw [he n e]
        have := h2 (by omega); omega

theorem wpAny_recs {P : Program} {E : Env} (T : TabOK P E) {C : FuncId → List AV → List ABlk → Option AV} (hC : Oracle P C) {ops : Array Oper} {rs : List Rec} {s0 : St} {b : Nat} {Q : Exit → Act → World → Prop} {X : Ent}
    (hsl : slotsOK ops = true) (hmem : memOK ops rs = true) (hlen : rs.length = ops.size)
    (htext : ∀ j, j < ops.size → ∃ o r, rs[j]? = some r ∧ TextAt E C ops b s0.h.length (stD ops rs s0 (fun _ => true) j) j o r)
    (hQ : ∀ a w, Sim X (stD ops rs s0 (fun _ => true) ops.size) a w → Q .normal a w) :
    ∀ (fuel : Nat) (listed : Array Bool) (a : Act) (w : World), listed.size = ops.size → cntD (fun i => listed.getD i false) ops.size ≤ fuel →
      (∀ j, listed.getD j false = true → ∀ p, p ∈ preds ops j → listed.getD p false = true) →
      Sim X (stD ops rs s0 (fun i => listed.getD i false) ops.size) a w → wpAny P .any ops Q fuel listed a w := by
  simp only [slotsOK, Bool.and_eq_true] at hsl
  obtain ⟨hpr, hsl⟩ := hsl
  have hb : Bnd rs s0.h.length := fun i id hi => by
    unfold domOf at hi
    split at hi
    · rename_i r hr
      obtain ⟨p, hp, rfl⟩ := List.mem_map.1 hi
      have hlt : i < ops.size := by rw [← hlen]; exact (List.getElem?_eq_some_iff.1 hr).1
      obtain ⟨o, r', hr', ht⟩ := htext i hlt
      rw [hr] at hr'; cases hr'
      exact ht.bnd p hp
    · cases hi
  -- what is not ordered does not touch
  have slots : ∀ i j, i < j → j < ops.size → ((ancT ops ops.size).getD j 0).testBit i = true ∨ slotFree ops i j = true := fun i j hij hj => by
    have := allPairs_spec hsl hij hj
    simpa using this
  have mems : ∀ i j, i < j → j < ops.size → memFree (recAt rs i) (recAt rs j) = true ∨ ((ancT ops ops.size).getD j 0).testBit i = true := fun i j hij hj => memOK_spec hmem hij hj
  have recAt_of : ∀ {i : Nat} {r : Rec}, rs[i]? = some r → recAt rs i = r := fun h => by simp [recAt, h]
  have allOf : ∀ (listed : Array Bool), (∀ i, i < ops.size → listed.getD i false = true) → stD ops rs s0 (fun i => listed.getD i false) ops.size = stD ops rs s0 (fun _ => true) ops.size := fun listed hall => by
    have : ∀ n, n ≤ ops.size → stD ops rs s0 (fun i => listed.getD i false) n = stD ops rs s0 (fun _ => true) n := by
      intro n
      induction n with
      | zero => intro _; rfl
      | succ n ih => intro hn; simp only [stD]; rw [ih (by omega)]; simp only [hall n (by omega)]
    exact this _ (Nat.le_refl _)
  have readyAll : ∀ (listed : Array Bool), listed.size = ops.size → Region.ready .any ops listed = [] → ∀ i, i < ops.size → listed.getD i false = true := fun listed hsz hr i => by
    induction i using Nat.strongRecOn with
    | _ i ih =>
      intro hi
      cases hd : listed.getD i false with
      | true => rfl
      | false =>
        exfalso
        have hmem : i ∈ Region.ready .any ops listed := by
          rw [mem_ready]
          have hi' : i < listed.size := by omega
          have ho : ops[i]? = some ops[i] := Array.getElem?_eq_getElem hi
          refine ⟨?_, ops[i], ho, fun e he hbd => ?_⟩
          · simp only [Array.getD_eq_getD_getElem?, Array.getElem?_eq_getElem hi', Option.getD_some] at hd ⊢; exact hd
          · have hp : e.on ∈ preds ops i := by
              unfold preds; rw [ho]
              exact List.mem_filterMap.2 ⟨e, by simpa using he, by rw [if_pos hbd]⟩
            have hlt := predsOK_lt hpr i hi _ hp
            exact ih e.on hlt (by omega)
        rw [hr] at hmem; cases hmem
  intro fuel
  induction fuel with
  | zero =>
    intro listed a w hsz hcnt hdown hs
    have hall := cntD_zero (Nat.le_zero.1 hcnt)
    refine ⟨?_, hQ a w (by rw [← allOf listed hall]; exact hs)⟩
    cases hr : Region.ready .any ops listed with
    | nil => rfl
    | cons i l =>
      have hm : i ∈ Region.ready .any ops listed := by rw [hr]; simp
      obtain ⟨h0, o, ho, _⟩ := mem_ready.1 hm
      have hi : i < ops.size := (Array.getElem?_eq_some_iff.1 ho).1
      have h1 := hall i hi
      simp only [Array.getD_eq_getD_getElem?, Array.getElem?_eq_getElem (show i < listed.size by omega), Option.getD_some] at h0 h1
      rw [h0] at h1; cases h1
  | succ fuel ih =>
    intro listed a w hsz hcnt hdown hs
    refine ⟨fun hr => hQ a w (by rw [← allOf listed (readyAll listed hsz hr)]; exact hs), fun j hj => ?_⟩
    obtain ⟨h0, o, ho, hpre⟩ := mem_ready.1 hj
    have hjl : j < ops.size := (Array.getElem?_eq_some_iff.1 ho).1
    have hD : listed.getD j false = false := by
      simp only [Array.getD_eq_getD_getElem?, Array.getElem?_eq_getElem (show j < listed.size by omega), Option.getD_some] at h0 ⊢; exact h0
    have hpreds : ∀ p, p ∈ preds ops j → listed.getD p false = true := fun p hp => by
      unfold preds at hp; rw [ho] at hp
      obtain ⟨e, he, heq⟩ := List.mem_filterMap.1 hp
      split at heq
      · rename_i hbd; cases heq; exact hpre e (by simpa using he) hbd
      · cases heq
    obtain ⟨o', r, hr, ht⟩ := htext j hjl
    have := ht.oper
    rw [ho] at this; cases this
    -- D and the text's beginning tell the same of all that may touch
    have agree : ∀ i, i < ops.size → (i < j → slotFree ops i j = false ∨ memFree (recAt rs i) (recAt rs j) = false → listed.getD i false = true) ∧ (j < i → slotFree ops j i = false ∨ memFree (recAt rs j) (recAt rs i) = false → listed.getD i false = false) := fun i hi => by
      refine ⟨fun hij hc => ?_, fun hij hc => ?_⟩
      · have hanc : ((ancT ops ops.size).getD j 0).testBit i = true := by
          rcases hc with hc | hc
          · rcases slots i j hij hjl with h1 | h1
            · exact h1
            · rw [hc] at h1; cases h1
          · rcases mems i j hij hjl with h1 | h1
            · rw [hc] at h1; cases h1
            · exact h1
        exact anc_done (D := fun i => listed.getD i false) hdown ops.size j i hjl hanc hpreds
      · have hanc : ((ancT ops ops.size).getD i 0).testBit j = true := by
          rcases hc with hc | hc
          · rcases slots j i hij hi with h1 | h1
            · exact h1
            · rw [hc] at h1; cases h1
          · rcases mems j i hij hi with h1 | h1
            · rw [hc] at h1; cases h1
            · exact h1
        cases hdi : listed.getD i false with
        | false => rfl
        | true =>
          have := anc_done (D := fun i => listed.getD i false) hdown ops.size i j hi hanc (fun p hp => hdown i hdi p hp)
          have h9 : listed.getD j false = true := this
          rw [hD] at h9; cases h9
    have pre : ∀ n, j ≤ n → stD ops rs s0 (fun i => decide (i < j)) n = stD ops rs s0 (fun _ => true) j := by
      have below : ∀ n, n ≤ j → stD ops rs s0 (fun i => decide (i < j)) n = stD ops rs s0 (fun _ => true) n := by
        intro n
        induction n with
        | zero => intro _; rfl
        | succ n ihn => intro hn; simp only [stD]; rw [ihn (by omega)]; simp [show n < j by omega]
      intro n
      induction n with
      | zero => 
        intro hn
        have h9 := below 0 (Nat.zero_le _)
        have e0 : j = 0 := by omega
        rw [h9, e0]
      | succ n ihn =>
        intro hn
        by_cases e : j = n + 1
        · rw [← e]; exact below j (Nat.le_refl _)
        · simp only [stD]; simp [show ¬ n < j by omega]; exact ihn (by omega)
    have hrj := recAt_of hr
    have tslot : ∀ d, d ∈ o.looksAt ops → (stD ops rs s0 (fun i => listed.getD i false) ops.size).t[d]? = (stD ops rs s0 (fun _ => true) j).t[d]? := fun d hd => by
      rw [← pre ops.size (Nat.le_of_lt hjl)]
      refine stD_slot _ fun i hi hdst => ?_
      have hlook : (lookAt ops j).contains d = true := by simp only [lookAt, ho]; simpa using hd
      rcases Nat.lt_trichotomy i j with h1 | h1 | h1
      · simp only [h1, decide_true]
        exact (agree i hi).1 h1 (.inl (by simp only [slotFree, hdst, hlook]; simp))
      · subst h1; simp only [hD]; simp
      · have := (agree i hi).2 h1 (.inl (by simp only [slotFree, hdst, hlook]; simp))
        simp only [this]; simp; omega
    have tblk : ∀ id, id ∈ (b + j) :: readsOf (stD ops rs s0 (fun _ => true) j) o → (stD ops rs s0 (fun i => listed.getD i false) ops.size).h[id]? = (stD ops rs s0 (fun _ => true) j).h[id]? := fun id hid => by
      rw [← pre ops.size (Nat.le_of_lt hjl)]
      refine stD_blk hb rfl _ fun i hi hdom => ?_
      rw [← ht.reads] at hid
      have key : ∀ (hij : i ≠ j), ∃ q, rs[i]? = some q ∧ ∃ p, p ∈ q.U ∧ p.1 = id := fun hij => by
        unfold domOf at hdom
        split at hdom
        · rename_i q hq
          obtain ⟨p, hp, rfl⟩ := List.mem_map.1 hdom
          exact ⟨q, hq, p, hp, rfl⟩
        · cases hdom
      rcases Nat.lt_trichotomy i j with h1 | h1 | h1
      · simp only [h1, decide_true]
        obtain ⟨q, hq, p, hp, rfl⟩ := key (by omega)
        refine (agree i hi).1 h1 (.inr ?_)
        rw [recAt_of hq, hrj]
        simp only [memFree, Bool.and_eq_false_iff, List.all_eq_false]
        exact .inl ⟨p, hp, by simp [hid]⟩
      · subst h1; simp only [hD]; simp
      · obtain ⟨q, hq, p, hp, rfl⟩ := key (by omega)
        have := (agree i hi).2 h1 (.inr (by
          rw [recAt_of hq, hrj]
          simp only [memFree, Bool.and_eq_false_iff, List.all_eq_false]
          exact .inr ⟨p, hp, by simp [hid]⟩))
        simp only [this]; simp; omega
    have hact : act E C ops o (stD ops rs s0 (fun i => listed.getD i false) ops.size) (b + j) = some (r.v, r.U) := by
      rw [← ht.acts]
      exact act_same E C ops o (b + j) (by rw [stD_len hb rfl, stD_len hb rfl]) tslot fun id hid => tblk id (List.mem_cons_of_mem _ hid)
    have hfr : Fresh (stD ops rs s0 (fun i => listed.getD i false) ops.size).h (b + j) := .inr ((tblk (b + j) (by simp)).trans ht.fresh)
    refine wpOp_act T hC ho hfr hact hs fun a' w' hs' => ?_
    have hset : ∀ i, i ≠ j → (listed.setIfInBounds j true).getD i false = listed.getD i false := fun i hi => getD_set_ne false (Ne.symm hi)
    have hsetj : (listed.setIfInBounds j true).getD j false = true := by simp [show j < listed.size by omega]
    refine ih (listed.setIfInBounds j true) a' w' (by simpa using hsz) ?_ ?_ ?_
    · have := (cntD_set (D := fun i => listed.getD i false) (D' := fun i => (listed.setIfInBounds j true).getD i false) hD hsetj hset ops.size).2 hjl
      omega
    · intro k hk p hp
      by_cases e : k = j
      · subst e
        exact getD_set_true (hpreds p hp)
      · rw [hset k e] at hk
        exact getD_set_true (hdown k hk p hp)
    · rw [stD_insert (D := fun i => listed.getD i false) hb rfl hD hsetj hset ops.size hjl]
      · unfold putR; rw [ho, hr]; exact hs'
      · intro i h1 h2 hDi
        have hDi : listed.getD i false = true := hDi
        have hno := (agree i h2).2 h1
        refine ⟨fun x hx hxi => ?_, fun x hx hxi => ?_⟩
        · have := hno (.inl (by simp only [slotFree, hx, hxi]; simp))
          rw [hDi] at this; cases this
        · unfold domOf at hx hxi
          rw [hr] at hx
          split at hxi
          · rename_i q hq
            obtain ⟨p, hp, rfl⟩ := List.mem_map.1 hx
            have := hno (.inr (by
              rw [recAt_of hq, hrj]
              simp only [memFree, Bool.and_eq_false_iff, List.all_eq_false]
              exact .inl ⟨p, hp, by simp; intro _; simpa using hxi⟩))
            rw [hDi] at this; cases this
          · cases hxi

/-- A region that draws its order, run in the text's order. -/
def drawn (E : Env) (C : FuncId → List AV → List ABlk → Option AV) (ops : Array Oper) (s : St) : Option St :=
  match runT E C ops s.h.length (s.h ++ List.replicate ops.size ABlk.unborn).length ops.size 0 ⟨s.t, s.h ++ List.replicate ops.size ABlk.unborn⟩ with
  | some (rs, s1) => if memOK ops rs then some ⟨s1.t, trimU s1.h⟩ else none
  | none => none

theorem Run.drawn {P : Program} {E : Env} (T : TabOK P E) {C : FuncId → List AV → List ABlk → Option AV} (hC : Oracle P C) {n : Nat} {id : Nat} {ops : Array Oper} {s s' : St} {Q : Exit → St → Prop} (hsl : slotsOK ops = true) (hd : drawn E C ops s = some s') (h : Q .normal s') : Run P n (.region id ops true) Q s := fun X a w hX hs => by
  unfold Ev.drawn at hd
  split at hd
  · rename_i rs s1 hrun
    split at hd
    · rename_i hmem
      cases hd
      have hs0 : Sim X ⟨s.t, s.h ++ List.replicate ops.size ABlk.unborn⟩ a w := Sim.pad (t := s.t) (h := s.h) hs fun i => by
        rcases Nat.lt_or_ge i s.h.length with hi | hi
        · left; rw [List.getElem?_append_left hi]
        · right
          refine ⟨.inl (List.getElem?_eq_none hi), ?_⟩
          rw [List.getElem?_append_right hi, List.getElem?_replicate]
          split
          · exact .inr rfl
          · exact .inl rfl
      obtain ⟨h1, h2, h3⟩ := runT_spec (s0 := ⟨s.t, s.h ++ List.replicate ops.size ABlk.unborn⟩) (all := rs) ops.size 0 _ [] rs s1 hrun rfl rfl rfl
      simp only [Nat.zero_add] at h1 h2 h3
      refine wp_region_any T.mixed ?_
      refine wpAny_recs (s0 := ⟨s.t, s.h ++ List.replicate ops.size ABlk.unborn⟩) (b := s.h.length) T hC hsl hmem h2 (fun j hj => h3 j (Nat.zero_le _) hj) (X := X) (fun a' w' hs' => ?_) ops.size _ a _ (by simp) ?_ ?_ ?_
      · refine ⟨⟨s1.t, trimU s1.h⟩, ?_, h⟩
        rw [← h1] at hs'
        exact Sim.pad (t := s1.t) (h := s1.h) hs' (trimU_get s1.h)
      · have : ∀ (D : Nat → Bool) n, cntD D n ≤ n := fun D n => by
          induction n with
          | zero => exact Nat.le_refl _
          | succ n ih => simp only [cntD]; split <;> omega
        exact this _ _
      · intro j hj
        have hf : (Array.replicate ops.size false).getD j false = false := by
          simp only [Array.getD_eq_getD_getElem?, Array.getElem?_replicate]; split <;> rfl
        rw [hf] at hj; cases hj
      · have : ∀ n, stD ops rs ⟨s.t, s.h ++ List.replicate ops.size ABlk.unborn⟩ (fun i => (Array.replicate ops.size false).getD i false) n = ⟨s.t, s.h ++ List.replicate ops.size ABlk.unborn⟩ := fun n => by
          induction n with
          | zero => rfl
          | succ n ih =>
            have hf : (Array.replicate ops.size false).getD n false = false := by
              simp only [Array.getD_eq_getD_getElem?, Array.getElem?_replicate]; split <;> rfl
            simp only [stD, hf]; exact ih
        rw [this]
        exact hs0.drew _
    · cases hd
  · cases hd
end Go.Ev

/-  The evaluator, part X: code run to its end, by a function that the kernel can reckon. -/
namespace Go.Ev
open Go.RowKit
variable [Globs]

/-- The program's own tables. -/
def envOf (P : Program) : Env where
  und := P.underlying
  size := fun t => (P.info? t).map (·.size)
  bytes := fun t => (P.info? t).map (·.bytes)
  zero := fun t => match P.info? t with
    | some i => match i.zero with
      | some v => litAll v.cells.toList
      | none => none
    | none => none
  cmp := fun t => !P.stoodInHeld t && !P.eqGuardType P.depth t
theorem envOf_ok {P : Program} (h : P.follows .mixedOrders = true) : TabOK P (envOf P) where
  und := fun _ _ h => h
  size := fun t n h => by
    obtain ⟨i, hi, rfl⟩ := Option.map_eq_some_iff.1 h
    exact ⟨i, hi, rfl⟩
  bytes := fun t n h => by
    obtain ⟨i, hi, rfl⟩ := Option.map_eq_some_iff.1 h
    exact ⟨i, hi, rfl⟩
  zero := fun t z h => by
    simp only [envOf] at h
    split at h
    · rename_i i hi
      split at h
      · rename_i v hv; exact ⟨i, v, hi, hv, h⟩
      · cases h
    · cases h
  cmp := fun t h => by
    simp only [envOf, Bool.and_eq_true, Bool.not_eq_true'] at h; exact h
  mixed := h

/-! # what is left of a call -/

theorem OpOut.sim {N : Nat → Prop} {h : List ABlk} {ρ : Nat → Pl} {w : World} {v : AV} {h' : List ABlk} {x : Value} {w' : World} : OpOut N h ρ w v h' x w' ↔ Sim ⟨N, h, ρ, w⟩ ⟨[v], h'⟩ ⟨#[x], []⟩ w' := by
  constructor
  · rintro ⟨⟨N', ρ', H, hr, K, hs⟩⟩
    refine ⟨N', ρ', H, ⟨rfl, fun i u hu => ?_, H.glob⟩, ?_, K, rfl⟩
    · match i, hu with
      | 0, hu => simp at hu; subst hu; exact ⟨x, rfl, hr⟩
      | i + 1, hu => simp at hu
    · simp only [AV.sc.scAll, Bool.and_true]; exact hs
  · rintro ⟨N', ρ', S⟩
    obtain ⟨y, hy, hr⟩ := S.slots.rep 0 v rfl
    have : y = x := by simpa using hy.symm
    subst this
    have hs := S.sc
    simp only [AV.sc.scAll, Bool.and_true] at hs
    exact ⟨⟨N', ρ', S.heap, hr, S.kept, hs⟩⟩

theorem Good.turn {P : Program} {f : FuncId} {args : List AV} {h h1 h2 : List ABlk} {r r2 : AV} (G : Good P f args h r h1) (ht : ∀ (X : Ent) (a : Act) (w : World), X.h = h → Sim X ⟨[r], h1⟩ a w → Sim X ⟨[r2], h2⟩ a w) : Good P f args h r2 h2 :=
  fun w N ρ vs H hsc hl hrep => (G w N ρ vs H hsc hl hrep).mono fun _ _ ho => OpOut.sim.2 (ht _ _ _ rfl (OpOut.sim.1 ho))

def inB (q : Nat → Bool) : ABlk → Bool
  | .box cs => AV.sc.scAll q cs
  | _ => true
/-- The blocks behind the first m are named nowhere. -/
def stays (m : Nat) (r : AV) (h : List ABlk) : Bool := let q := born (h.take m); r.sc q && (h.take m).all (inB q)

theorem scrub_id {q : Nat → Bool} {v : AV} (h : v.sc q = true) : scrub q v = v := by simp [scrub, h]
theorem scrubB_id {q : Nat → Bool} {k : ABlk} (h : inB q k = true) : scrubB q k = k := by
  cases k with
  | box cs =>
    simp only [scrubB]
    congr 1
    have : ∀ l : List AV, (∀ x, x ∈ l → x.sc q = true) → l.map (scrub q) = l := fun l => by
      induction l with
      | nil => intro _; rfl
      | cons x l ih => intro hl; simp only [List.map_cons]; rw [scrub_id (hl x (by simp)), ih fun y hy => hl y (by simp [hy])]
    exact this cs (scAll_iff.1 h)
  | _ => rfl
theorem Good.trim {P : Program} {f : FuncId} {args : List AV} {h h1 : List ABlk} {r : AV} (G : Good P f args h r h1) {m : Nat} (hm : h.length ≤ m) (hs : stays m r h1 = true) : Good P f args h r (h1.take m) := by
  simp only [stays, Bool.and_eq_true] at hs
  have e1 : gc 1 m ⟨[r], h1⟩ = ⟨[r], h1.take m⟩ := by
    simp only [gc, List.take_succ_cons, List.take_zero, List.map_cons, List.map_nil, List.length_singleton, Nat.sub_self, List.replicate_zero, List.append_nil]
    rw [scrub_id hs.1]
    congr 1
    have : ∀ l : List ABlk, (∀ x, x ∈ l → inB (born (h1.take m)) x = true) → l.map (scrubB (born (h1.take m))) = l := fun l => by
      induction l with
      | nil => intro _; rfl
      | cons x l ih => intro hl; simp only [List.map_cons]; rw [scrubB_id (hl x (by simp)), ih fun y hy => hl y (by simp [hy])]
    exact this _ (List.all_eq_true.1 hs.2)
  exact G.turn fun X a w hX h2 => by rw [← e1]; exact h2.gc 1 m (by rw [hX]; exact hm)

/-- All rows frozen. -/
def freezeAll : Nat → St → St
  | 0, s => s
  | n + 1, s => freeze n (freezeAll n s)
theorem Sim.freezeAll {X : Ent} {a : Act} {w : World} : ∀ (n : Nat) {s : St}, Sim X s a w → Sim X (freezeAll n s) a w
  | 0, _, h => h
  | n + 1, _, h => (Sim.freezeAll n h).freeze n

def freezeIds : List Nat → St → St
  | [], s => s
  | id :: ids, s => freezeIds ids (freeze id s)
theorem RunOps.freezeIds {P : Program} {n : Nat} {ops : Array Oper} {l : List Nat} {Q : Exit → St → Prop} : ∀ (ids : List Nat) {s : St}, RunOps P n ops l Q (freezeIds ids s) → RunOps P n ops l Q s
  | [], _, h => h
  | id :: ids, _, h => RunOps.freeze id (RunOps.freezeIds ids h)

/-! # code -/

def execOps (E : Env) (K : FuncId → List AV → List ABlk → Option (AV × List ABlk)) (ops : Array Oper) : List Nat → St → Option St
  | [], s => some s
  | i :: l, s => match ops[i]? with
    | none => execOps E K ops l s
    | some o => match wantedA ops s.t o with
      | some false => execOps E K ops l ⟨setD s.t o.dst .und, s.h⟩
      | some true =>
        if goCall o then
          match callOf s.t o with
          | some (f, args) => match K f args s.h with
            | some (r, h') => execOps E K ops l ⟨setD s.t o.dst r, h'⟩
            | none => none
          | none => none
        else
          match evOp E o.op o.type s.t s.h s.h.length with
          | some (v, U) => execOps E K ops l ⟨setD s.t o.dst v, app s.h U⟩
          | none => if closes o.op then
              let s1 := freezeIds (o.op.operands.toList.flatMap (idsIn s.t)) s
              match evOp E o.op o.type s1.t s1.h s1.h.length with
              | some (v, U) => match wantedA ops s1.t o with
                | some true => execOps E K ops l ⟨setD s1.t o.dst v, app s1.h U⟩
                | _ => none
              | none => none
            else none
      | none => none

/-- Calls, whatever they do with own blocks. -/
def CallOK (P : Program) (K : FuncId → List AV → List ABlk → Option (AV × List ABlk)) : Prop := ∀ f args h r h', K f args h = some (r, h') → Good P f args h r h'

theorem execOps_sound {P : Program} {E : Env} (T : TabOK P E) {K : FuncId → List AV → List ABlk → Option (AV × List ABlk)} (hK : CallOK P K) {n : Nat} {ops : Array Oper} {Q : Exit → St → Prop} : ∀ (l : List Nat) (s s' : St), execOps E K ops l s = some s' → Q .normal s' → RunOps P n ops l Q s
  | [], s, s', h, hq => by
    simp only [execOps, Option.some.injEq] at h; subst h
    exact RunOps.nil hq
  | i :: l, s, s', h, hq => by
    unfold execOps at h
    split at h
    · rename_i hi
      exact RunOps.none hi (execOps_sound T hK l s s' h hq)
    · rename_i o hi
      split at h
      · rename_i hw
        exact RunOps.skip hi hw (execOps_sound T hK l _ s' h hq)
      · rename_i hw
        split at h
        · split at h
          · rename_i f us hc
            split at h
            · rename_i r h1 hk
              obtain ⟨c, fo, fv, args, caps, q1, q2, q3, q4, q5, rfl⟩ := callOf_spec hc
              exact RunOps.call hi hw q1 q2 q3 q5 q4 (hK _ _ _ _ _ hk) (execOps_sound T hK l _ s' h hq)
            · cases h
          · cases h
        · split at h
          · rename_i v U hv
            exact RunOps.op T hi hw hv (execOps_sound T hK l _ s' h hq)
          · split at h
            · simp only at h
              split at h
              · rename_i v U hv
                split at h
                · rename_i hw1
                  exact RunOps.freezeIds _ (RunOps.op T hi hw1 hv (execOps_sound T hK l _ s' h hq))
                · cases h
              · cases h
            · cases h
      · cases h

/-- A call's end: blocks that are named nowhere are dropped. -/
def ended (m : Nat) (r : AV) (h : List ABlk) : AV × List ABlk := if stays m r h then (r, h.take m) else (r, h)

def bodyOf (E : Env) (X : Code → St → Option (Exit × St)) (F : FuncId → Option Func) (L : FuncId → List AV → List ABlk → Option (AV × List ABlk)) (f : FuncId) (args : List AV) (h : List ABlk) : Option (AV × List ABlk) :=
  match L f args h with
  | some r => some r
  | none => match F f with
    | none => none
    | some fn => match fn.body with
      | none => none
      | some c => if fn.name == "runtime.NumGoroutine" then none else
        match X c ⟨args ++ List.replicate (fn.ntmps - args.length) .und, h⟩ with
        | some (.normal, s) | some (.ret, s) => (resA E fn.results.toList s).map fun r => ended h.length r s.h
        | _ => none

def freezeFrom (m : Nat) : Nat → St → St
  | 0, s => s
  | n + 1, s => freeze (m + n) (freezeFrom m n s)
theorem Sim.freezeFrom {X : Ent} {a : Act} {w : World} (m : Nat) : ∀ (n : Nat) {s : St}, Sim X s a w → Sim X (freezeFrom m n s) a w
  | 0, _, h => h
  | n + 1, _, h => (Sim.freezeFrom m n h).freeze (m + n)

/-- A call from a region that draws its order: the own blocks stay as they are. -/
def shut (K : FuncId → List AV → List ABlk → Option (AV × List ABlk)) (f : FuncId) (args : List AV) (h : List ABlk) : Option AV := match K f args h with
  | some (r, h2) => match freezeFrom h.length (h2.length - h.length) ⟨[r], h2⟩ with
    | ⟨[r'], h'⟩ => if stays h.length r' h' && sameH (h'.take h.length) h then some r' else none
    | _ => none
  | none => none

def exec (E : Env) (F : FuncId → Option Func) (L : FuncId → List AV → List ABlk → Option (AV × List ABlk)) : Nat → Code → St → Option (Exit × St)
  | 0, _, _ => none
  | n + 1, c, s => match c with
    | .skip => some (.normal, s)
    | .label _ => some (.normal, s)
    | .exit id => some (.exit id, s)
    | .goto l => some (.goto l, s)
    | .ret => some (.ret, s)
    | .seq x y => match exec E F L n x s with
      | some (.normal, s1) => exec E F L n y s1
      | r => r
    | .block id c => match exec E F L n c s with
      | some (.exit id', s1) => if id' = id then some (.normal, s1) else some (.exit id', s1)
      | r => r
    | .cond c x y => match opd s.t c with
      | some (.c (.bool b)) => exec E F L n (if b then x else y) s
      | _ => none
    | .loop c => match exec E F L n c s with
      | some (.normal, s1) => exec E F L n (.loop c) s1
      | r => r
    | .region _ ops false => match execOps E (bodyOf E (exec E F L n) F L) ops (List.range ops.size) s with
      | some s1 => some (.normal, s1)
      | none => none
    | .region _ ops true => if slotsOK ops then
        match drawn E (shut (bodyOf E (exec E F L n) F L)) ops s with
        | some s1 => some (.normal, s1)
        | none => none
      else none
    | _ => none

theorem bodyOf_sound {P : Program} {E : Env} (T : TabOK P E) {X : Code → St → Option (Exit × St)} {F : FuncId → Option Func} {L : FuncId → List AV → List ABlk → Option (AV × List ABlk)} (hF : ∀ f fn, F f = some fn → P.funcs[f]? = some fn) (hL : CallOK P L)
    (hX : ∀ c s e s', X c s = some (e, s') → ∀ n, Run P n c (fun e1 s1 => e1 = e ∧ s1 = s') s) : CallOK P (bodyOf E X F L) := by
  intro f args h r h' hb
  unfold bodyOf at hb
  split at hb
  · rename_i r0 h0; cases hb; exact hL _ _ _ _ _ h0
  · split at hb
    · cases hb
    · rename_i fn hfn
      split at hb
      · cases hb
      · rename_i c hc
        split at hb
        · cases hb
        · rename_i hnm
          have fin : ∀ e s, (e = .normal ∨ e = .ret) → X c ⟨args ++ List.replicate (fn.ntmps - args.length) .und, h⟩ = some (e, s) → (resA E fn.results.toList s).map (fun r => ended h.length r s.h) = some (r, h') → Good P f args h r h' := fun e s he hx hb => by
            obtain ⟨r1, hr1, hend⟩ := Option.map_eq_some_iff.1 hb
            have G : Good P f args h r1 s.h := Good.of_run T (hF f fn hfn) hc (by simpa using hnm) ((hX _ _ _ _ hx h.length).mono fun e1 s1 ⟨h1, h2⟩ => by
              subst h1 h2; exact ⟨he, hr1, rfl⟩)
            unfold ended at hend
            split at hend
            · rename_i hst
              cases hend
              exact G.trim (Nat.le_refl _) hst
            · cases hend; exact G
          split at hb
          · rename_i s hx; exact fin _ s (.inl rfl) hx hb
          · rename_i s hx; exact fin _ s (.inr rfl) hx hb
          · cases hb

theorem shut_sound {P : Program} {K : FuncId → List AV → List ABlk → Option (AV × List ABlk)} (hK : CallOK P K) : Oracle P (shut K) := by
  intro f args h r hs
  unfold shut at hs
  split at hs
  · rename_i r0 h0 hk
    split at hs
    · rename_i r1 h' he
      split at hs
      · rename_i hc
        simp only [Bool.and_eq_true] at hc
        simp only [Option.some.injEq] at hs
        subst hs
        have G1 : Good P f args h r1 h' := (hK _ _ _ _ _ hk).turn fun X a w _ hs => by rw [← he]; exact hs.freezeFrom _ _
        have G2 := G1.trim (Nat.le_refl _) hc.1
        rw [sameH_eq _ _ hc.2] at G2
        exact G2
      · cases hs
    · cases hs
  · cases hs

theorem exec_sound {P : Program} {E : Env} (T : TabOK P E) {F : FuncId → Option Func} {L : FuncId → List AV → List ABlk → Option (AV × List ABlk)} (hF : ∀ f fn, F f = some fn → P.funcs[f]? = some fn) (hL : CallOK P L) :
    ∀ (fuel : Nat) (c : Code) (s : St) (e : Exit) (s' : St), exec E F L fuel c s = some (e, s') → ∀ n, Run P n c (fun e1 s1 => e1 = e ∧ s1 = s') s := by
  intro fuel
  induction fuel using Nat.strongRecOn with
  | _ fuel IH =>
  cases fuel with
  | zero => intro c s e s' h n; simp [exec] at h
  | succ fuel =>
    intro c s e s' h n
    have ih := IH fuel (by omega)
    have hK : CallOK P (bodyOf E (exec E F L fuel) F L) := bodyOf_sound T hF hL ih
    cases c with
    | skip => simp only [exec, Option.some.injEq, Prod.mk.injEq] at h; exact Run.skip ⟨h.1, h.2⟩
    | label l => simp only [exec, Option.some.injEq, Prod.mk.injEq] at h; exact Run.label ⟨h.1, h.2⟩
    | exit id => simp only [exec, Option.some.injEq, Prod.mk.injEq] at h; exact Run.exit ⟨h.1, h.2⟩
    | goto id => simp only [exec, Option.some.injEq, Prod.mk.injEq] at h; exact Run.goto ⟨h.1, h.2⟩
    | ret => simp only [exec, Option.some.injEq, Prod.mk.injEq] at h; exact Run.ret ⟨h.1, h.2⟩
    | seq x y =>
      simp only [exec] at h
      refine Run.seq ?_
      cases hx : exec E F L fuel x s with
      | none => rw [hx] at h; cases h
      | some p =>
        obtain ⟨e1, s1⟩ := p
        rw [hx] at h
        refine (ih _ _ _ _ hx n).mono ?_
        rintro e9 s9 ⟨h8, h9⟩
        rw [h8, h9]
        cases e1 <;> simp only [Option.some.injEq, Prod.mk.injEq] at h <;> first | exact ⟨h.1, h.2⟩ | exact ih _ _ _ _ h n
    | block id c =>
      simp only [exec] at h
      refine Run.block ?_
      cases hx : exec E F L fuel c s with
      | none => rw [hx] at h; cases h
      | some p =>
        obtain ⟨e1, s1⟩ := p
        rw [hx] at h
        refine (ih _ _ _ _ hx n).mono ?_
        rintro e9 s9 ⟨h8, h9⟩
        rw [h8, h9]
        cases e1 with
        | exit id' =>
          simp only at h
          simp only [inBlockS]
          split at h <;> rename_i hid <;> simp only [Option.some.injEq, Prod.mk.injEq] at h
          · rw [if_pos hid]; exact ⟨h.1, h.2⟩
          · rw [if_neg hid]; exact ⟨h.1, h.2⟩
        | _ => simp only [Option.some.injEq, Prod.mk.injEq] at h; exact ⟨h.1, h.2⟩
    | cond c x y =>
      simp only [exec] at h
      split at h
      · rename_i b hb; exact Run.cond hb (ih _ _ _ _ h n)
      · cases h
    | loop c =>
      refine Run.loop (fun j s1 => j ≤ fuel + 1 ∧ exec E F L j (.loop c) s1 = some (e, s')) (fuel + 1) ⟨Nat.le_refl _, h⟩ ?_
      rintro j s1 ⟨hj, hx⟩
      cases j with
      | zero => simp [exec] at hx
      | succ j =>
        simp only [exec] at hx
        cases hy : exec E F L j c s1 with
        | none => rw [hy] at hx; cases hx
        | some p =>
          obtain ⟨e1, s2⟩ := p
          rw [hy] at hx
          refine (IH j (by omega) _ _ _ _ hy n).mono ?_
          rintro e9 s9 ⟨h8, h9⟩
          rw [h8, h9]
          cases e1 with
          | normal => exact ⟨j, by omega, by omega, hx⟩
          | _ => simp only [Option.some.injEq, Prod.mk.injEq] at hx; exact ⟨hx.1, hx.2⟩
    | region id ops draw =>
      cases draw with
      | false =>
        simp only [exec] at h
        split at h
        · rename_i s1 hs
          cases h
          exact Run.region (execOps_sound T hK _ _ _ hs ⟨rfl, rfl⟩)
        · cases h
      | true =>
        simp only [exec] at h
        split at h
        · rename_i hsl
          split at h
          · rename_i s1 hs
            cases h
            exact Run.drawn T (shut_sound hK) hsl hs ⟨rfl, rfl⟩
          · cases h
        · cases h
    | rangeFunc _ _ _ _ => simp [exec] at h
    | scope _ => simp [exec] at h
    | refuse _ => simp [exec] at h
end Go.Ev

/-  The evaluator, part Y: functions that the model's own rows stand for. -/
namespace Go.Ev
open Go.RowKit
variable [Globs]

theorem Good.ext {P : Program} {f : FuncId} {fn : Func} {e : Array Value → Sem Value} (hf : P.funcs[f]? = some fn) (hname : (fn.name == "runtime.NumGoroutine") = false) (hb : fn.body.isNone = true) (hn : Extern.findNext fn = none) (he : Extern.find fn = some e)
    {args : List AV} {h : List ABlk} {r : AV} (hr : r.cl = true) (hrun : ∀ (w : World) (N : Nat → Prop) (ρ : Nat → Pl) (vs : List Value), args.length = vs.length → (∀ (i : Nat) (h1 : i < args.length) (h2 : i < vs.length), RepA w N ρ args[i] vs[i]) → ∃ v, (e vs.toArray).run P w = .ok v w ∧ RepA w N ρ r v) : Good P f args h r h := by
  intro w N ρ vs H hsc hl hrep
  obtain ⟨v, hv, hrv⟩ := hrun w N ρ vs hl hrep
  exact .inr ⟨v, w, by rw [run_callFunc_extern hf hname hb hn he, hv]; rfl, OpOut.quiet H hrv (AV.cl_sc _ hr _)⟩

theorem two_str {w : World} {N : Nat → Prop} {ρ : Nat → Pl} {a b : AV} {vs : List Value} (hl : [a, b].length = vs.length) (hr : ∀ (i : Nat) (h1 : i < [a, b].length) (h2 : i < vs.length), RepA w N ρ [a, b][i] vs[i]) : ∃ x y, vs = [x, y] ∧ RepA w N ρ a x ∧ RepA w N ρ b y := by
  match vs, hl with
  | [x, y], _ => exact ⟨x, y, rfl, hr 0 (by simp) (by simp), hr 1 (by simp) (by simp)⟩

def cmpStr (a b : ByteArray) : AV := .c (.int .i64 (Extern.BytealgCompare.cmp a b))
theorem compare_run (P : Program) (a b : ByteArray) (w : World) (N : Nat → Prop) (ρ : Nat → Pl) (vs : List Value) (hl : [AV.c (.str a), AV.c (.str b)].length = vs.length) (hr : ∀ (i : Nat) (h1 : i < [AV.c (.str a), AV.c (.str b)].length) (h2 : i < vs.length), RepA w N ρ [AV.c (.str a), AV.c (.str b)][i] vs[i]) :
    ∃ v, (Extern.BytealgCompare.compare vs.toArray).run P w = .ok v w ∧ RepA w N ρ (cmpStr a b) v := by
  obtain ⟨x, y, rfl, h1, h2⟩ := two_str hl hr
  cases h1.str_eq; cases h2.str_eq
  exact ⟨.int .i64 (Extern.BytealgCompare.cmp a b), rfl, .c (.int _ _)⟩

def countStr (a : ByteArray) (c : Int) : AV := .c (.int .i64 (a.foldl (fun (n : Int) x => if x == c.toNat.toUInt8 then n + 1 else n) ((0 : Nat) : Int)))
theorem count_run (P : Program) (a : ByteArray) (c : Int) (w : World) (N : Nat → Prop) (ρ : Nat → Pl) (vs : List Value) (hl : [AV.c (.str a), AV.c (.int .u8 c)].length = vs.length) (hr : ∀ (i : Nat) (h1 : i < [AV.c (.str a), AV.c (.int .u8 c)].length) (h2 : i < vs.length), RepA w N ρ [AV.c (.str a), AV.c (.int .u8 c)][i] vs[i]) :
    ∃ v, (Extern.BytealgCount.count vs.toArray).run P w = .ok v w ∧ RepA w N ρ (countStr a c) v := by
  obtain ⟨x, y, rfl, h1, h2⟩ := two_str hl hr
  cases h1.str_eq; cases h2.int_eq
  exact ⟨_, rfl, .c (.int _ _)⟩

def idxByte (a : ByteArray) (c : Int) : AV := match (List.range a.size).find? fun i => a[i]! == c.toNat.toUInt8 with
  | some i => .c (.int .i64 i)
  | none => .c (.int .i64 (-1))
theorem idxByte_run (P : Program) (a : ByteArray) (c : Int) (w : World) (N : Nat → Prop) (ρ : Nat → Pl) (vs : List Value) (hl : [AV.c (.str a), AV.c (.int .u8 c)].length = vs.length) (hr : ∀ (i : Nat) (h1 : i < [AV.c (.str a), AV.c (.int .u8 c)].length) (h2 : i < vs.length), RepA w N ρ [AV.c (.str a), AV.c (.int .u8 c)][i] vs[i]) :
    ∃ v, (Extern.BytealgIndexByte.indexByte vs.toArray).run P w = .ok v w ∧ RepA w N ρ (idxByte a c) v := by
  obtain ⟨x, y, rfl, h1, h2⟩ := two_str hl hr
  cases h1.str_eq; cases h2.int_eq
  unfold idxByte
  have e : (Extern.BytealgIndexByte.indexByte [Value.string a, Value.int .u8 c].toArray).run P w = (match (List.range a.size).find? fun i => a[i]! == c.toNat.toUInt8 with
    | some i => (pure (goInt i) : Sem Value)
    | none => pure (goInt (-1))).run P w := rfl
  rw [e]
  cases (List.range a.size).find? fun i => a[i]! == c.toNat.toUInt8 with
  | some i => exact ⟨_, rfl, .c (.int _ _)⟩
  | none => exact ⟨_, rfl, .c (.int _ _)⟩
end Go.Ev

/-  The evaluator, part Z: the same, with the slots in a tree: for the kernel. -/
namespace Go.Ev
open Go.RowKit
variable [Globs]

/-! # an operation, of any operands -/

def partsG (ρ : Operand → Option AV) : List (Nat × Operand) → Option (List (Nat × AV))
  | [] => some []
  | (i, x) :: r => match ρ x, partsG ρ r with
    | some v, some l => some ((i, v) :: l)
    | _, _ => none
def argsG (ρ : Operand → Option AV) : List Operand → Option (List AV)
  | [] => some []
  | x :: r => match ρ x, argsG ρ r with
    | some v, some l => some (v :: l)
    | _, _ => none
def optG (ρ : Operand → Option AV) : Option Operand → Option (Option AV)
  | none => some none
  | some x => (ρ x).map some

abbrev OV := Option (AV × List (Nat × ABlk))
def oNil (E : Env) (ty : TypeId) (nw : Nat) : OV := match E.und ty with
  | some (.slice e) => (E.size e).map fun sz => (.sl nw 0 0, [(nw, .rows sz e [])])
  | _ => none
def oMove (x : Option AV) : OV := x.map (·, [])
def oPick (c a b : Option AV) : OV := match c, a, b with
  | some (.c (.bool p)), some a, some b => some (mkPick p a b, [])
  | _, _, _ => none
def oAlloc (E : Env) (e : TypeId) (nw : Nat) : OV := (E.zero e).map fun z => (.ptr nw 0, [(nw, .box (z.map .c))])
def oBox (x : Option AV) (nw : Nat) : OV := match x with
  | some v => (cellsOf v).map fun cs => (.ptr nw 0, [(nw, .box cs)])
  | none => none
def oBuild (E : Env) (ty : TypeId) (l : Option (List (Nat × AV))) : OV := match E.und ty, E.zero ty, l with
  | some (.struct fs), some z, some l => match placesA E fs.toList with
    | some pl => (fillA (fun i => pl[i]?) (z.map .c) l).map fun cs => (.agg cs, [])
    | none => none
  | some (.array _ e), some z, some l => match E.size e with
    | some sz => (fillA (fun i => some (i * sz, sz)) (z.map .c) l).map fun cs => (.agg cs, [])
    | none => none
  | _, _, _ => none
def oBuildSlice (E : Env) (ty : TypeId) (len : Nat) (l : Option (List (Nat × AV))) (nw : Nat) : OV := match l with
  | some l => aBuildSlice E ty len l nw
  | none => none
def oLoad (E : Env) (ty : TypeId) (a : Option AV) (h : List ABlk) : OV := match a with
  | some a => (aLoad E ty a h).map (·, [])
  | none => none
def oStore (E : Env) (ty : TypeId) (a x : Option AV) (h : List ABlk) : OV := match a, x with
  | some a, some v => (aStore E ty a v h).map fun u => (.und, u)
  | _, _ => none
def oCheck (x : Option AV) : OV := match x with
  | some (.ptr id off) => some (.ptr id off, [])
  | some (.rd cs) => some (.rd cs, [])
  | some (.er id j i) => some (.er id j i, [])
  | some (.c (.fn f caps)) => some (.c (.fn f caps), [])
  | some (.fn f caps) => some (.fn f caps, [])
  | _ => none
def oBin (E : Env) (op : BinOp) (ty : TypeId) (x y : Option AV) : OV := match x, y with
  | some a, some b => (aBin E op ty a b).map (·, [])
  | _, _ => none
def oUn (op : UnOp) (x : Option AV) : OV := match x with
  | some a => (aUn op a).map (·, [])
  | none => none
def oConv (E : Env) (src dst : TypeId) (x : Option AV) (h : List ABlk) (nw : Nat) : OV := match x with
  | some a => aConv E src dst a h nw
  | none => none
def oFunc (f : FuncId) (n : Nat) (l : Option (List AV)) : OV := if n = 0 then l.map fun l => (match closeAllC l with | some cs => .c (.fn f cs) | none => .fn f l, []) else none
def oMake (E : Env) (ty : TypeId) (l c : Option AV) (nw : Nat) : OV := match l, c with
  | some l, some c => aMakeSlice E ty l c nw
  | _, _ => none
def oSlice (E : Env) (ty : TypeId) (x : Option AV) (lo hi : Option (Option AV)) (h : List ABlk) : OV := match x, lo, hi with
  | some x, some lo, some hi => (aSlice E ty x lo hi h).map (·, [])
  | _, _, _ => none
def oField (E : Env) (s : TypeId) (x : Option AV) (f : Nat) : OV := match x with
  | some a => (aField E s a f).map (·, [])
  | none => none
def oIdxAddr (E : Env) (ty : TypeId) (x ix : Option AV) (h : List ABlk) : OV := match x, ix with
  | some x, some i => (aIndexAddr E ty x i h).map (·, [])
  | _, _ => none
def oIdx (E : Env) (ty : TypeId) (x ix : Option AV) : OV := match x, ix with
  | some x, some i => (aIndex E ty x i).map (·, [])
  | _, _ => none
def oExtract (x : Option AV) (i : Nat) : OV := match x with
  | some (.tup vs) => (vs[i]?).map (·, [])
  | _ => none
def oBuiltin (E : Env) (b : Builtin) (ts : List TypeId) (l : Option (List AV)) (h : List ABlk) (nw : Nat) : OV := match l with
  | some l => match b with
    | .len => match ts, l with
      | ty :: _, x :: _ => (aLen E ty x).map (·, [])
      | _, _ => none
    | .append => aAppend E ts l h nw
    | .max => (minMax true l).map (·, [])
    | .min => (minMax false l).map (·, [])
    | _ => none
  | none => none
def oAssign (E : Env) (ty : TypeId) (ρ : Operand → Option AV) (nw : Nat) (x : Operand) : OV := match x with
  | .const (.slice none 0 0) => oNil E ty nw
  | x => oMove (ρ x)
def oCall (E : Env) (ρ : Operand → Option AV) (h : List ABlk) (nw : Nat) (c : Call) : OV := match c.callee with
  | .builtin b => oBuiltin E b c.argTypes.toList (argsG ρ c.args.toList) h nw
  | _ => none
def oMakeFunc (ρ : Operand → Option AV) (fn : Fn) (first captured : Array Operand) : OV := match fn with
  | .func f => oFunc f first.size (argsG ρ captured.toList)
  | _ => none
def oSliceOp (E : Env) (ty : TypeId) (ρ : Operand → Option AV) (h : List ABlk) (x : Operand) (lo hi mx : Option Operand) : OV := match mx with
  | none => oSlice E ty (ρ x) (optG ρ lo) (optG ρ hi) h
  | some _ => none

def evOpG (E : Env) (op : Op) (ty : TypeId) (ρ : Operand → Option AV) (h : List ABlk) (nw : Nat) : OV :=
  match op with
  | .assign x => oAssign E ty ρ nw x
  | .move x => oMove (ρ x)
  | .pick c a b => oPick (ρ c) (ρ a) (ρ b)
  | .alloc e => oAlloc E e nw
  | .box _ x => oBox (ρ x) nw
  | .build ty ps => oBuild E ty (partsG ρ ps.toList)
  | .buildSlice ty len ps => oBuildSlice E ty len (partsG ρ ps.toList) nw
  | .load ty a => oLoad E ty (ρ a) h
  | .store ty a x => oStore E ty (ρ a) (ρ x) h
  | .nilCheck x => oCheck (ρ x)
  | .binOp op ty x y _ => oBin E op ty (ρ x) (ρ y)
  | .unOp op _ x => oUn op (ρ x)
  | .convert src dst x => oConv E src dst (ρ x) h nw
  | .makeFunc fn first captured => oMakeFunc ρ fn first captured
  | .makeSlice ty l c => oMake E ty (ρ l) (ρ c) nw
  | .slice ty x lo hi mx => oSliceOp E ty ρ h x lo hi mx
  | .fieldAddr s x f => oField E s (ρ x) f
  | .indexAddr ty x ix => oIdxAddr E ty (ρ x) (ρ ix) h
  | .index ty x ix => oIdx E ty (ρ x) (ρ ix)
  | .extract x i => oExtract (ρ x) i
  | .call c => oCall E ρ h nw c
  | _ => none

theorem partsG_eq (t : List AV) : ∀ l, partsG (opd t) l = parts t l
  | [] => rfl
  | (i, x) :: l => by unfold partsG parts; rw [partsG_eq t l]; rfl
theorem argsG_eq (t : List AV) : ∀ l, argsG (opd t) l = argsA t l
  | [] => rfl
  | x :: l => by unfold argsG argsA; rw [argsG_eq t l]; rfl
theorem optG_eq (t : List AV) : ∀ x, optG (opd t) x = optA t x
  | none => rfl
  | some x => rfl
theorem evOpG_eq (E : Env) (op : Op) (ty : TypeId) (t : List AV) (h : List ABlk) (nw : Nat) : evOpG E op ty (opd t) h nw = evOp E op ty t h nw := by
  cases op with
  | assign x =>
    cases x with
    | const v =>
      cases v with
      | slice a n c =>
        cases a with
        | some a => rfl
        | none =>
          cases n with
          | succ n => rfl
          | zero => cases c <;> rfl
      | _ => rfl
    | _ => rfl
  | makeFunc fn first captured =>
    cases fn with
    | func f =>
      simp only [evOpG, oMakeFunc, oFunc, argsG_eq, evOp]
      try rfl
    | _ => rfl
  | slice ty x lo hi mx =>
    cases mx with
    | some m => rfl
    | none =>
      simp only [evOpG, oSliceOp, oSlice, optG_eq, evOp]
      try rfl
  | call c =>
    obtain ⟨callee, args, ats⟩ := c
    cases callee with
    | builtin b =>
      simp only [evOpG, oCall, oBuiltin, argsG_eq, evOp]
      try rfl
    | _ => rfl
  | build ty ps => 
    simp only [evOpG, oBuild, partsG_eq, evOp]
    all_goals rfl
  | buildSlice ty len ps => 
    simp only [evOpG, oBuildSlice, partsG_eq, evOp]
    all_goals rfl
  | _ => rfl

/-! # the tree -/

inductive Tr where
  | em
  | lf (v : AV)
  | nd (l r : Tr)
noncomputable def Tr.get (t : Tr) : Nat → AV := Tr.rec (motive := fun _ => Nat → AV) (fun _ => .und) (fun v _ => v) (fun _ _ gl gr i => bif Nat.beq (i % 2) 0 then gl (i / 2) else gr (i / 2)) t
noncomputable def Tr.set (t : Tr) : Nat → AV → Tr := Tr.rec (motive := fun _ => Nat → AV → Tr) (fun _ _ => .em) (fun _ _ v => .lf v) (fun l r sl sr i v => bif Nat.beq (i % 2) 0 then .nd (sl (i / 2) v) r else .nd l (sr (i / 2) v)) t
theorem Tr.get_nd (l r : Tr) (i : Nat) : Tr.get (.nd l r) i = if i % 2 = 0 then Tr.get l (i / 2) else Tr.get r (i / 2) := by
  show (bif Nat.beq (i % 2) 0 then Tr.get l (i / 2) else Tr.get r (i / 2)) = _
  by_cases h : i % 2 = 0
  · rw [if_pos h, h]; rfl
  · rw [if_neg h]
    have : Nat.beq (i % 2) 0 = false := by cases hb : Nat.beq (i % 2) 0 with
      | false => rfl
      | true => exact absurd (Nat.eq_of_beq_eq_true hb) h
    rw [this]; rfl
theorem Tr.set_nd (l r : Tr) (i : Nat) (v : AV) : Tr.set (.nd l r) i v = if i % 2 = 0 then .nd (Tr.set l (i / 2) v) r else .nd l (Tr.set r (i / 2) v) := by
  show (bif Nat.beq (i % 2) 0 then Tr.nd (Tr.set l (i / 2) v) r else Tr.nd l (Tr.set r (i / 2) v)) = _
  by_cases h : i % 2 = 0
  · rw [if_pos h, h]; rfl
  · rw [if_neg h]
    have : Nat.beq (i % 2) 0 = false := by cases hb : Nat.beq (i % 2) 0 with
      | false => rfl
      | true => exact absurd (Nat.eq_of_beq_eq_true hb) h
    rw [this]; rfl
def Tr.full : Nat → Tr
  | 0 => .lf .und
  | k + 1 => .nd (Tr.full k) (Tr.full k)
def Tr.comp : Nat → Tr → Prop
  | 0, .lf _ => True
  | k + 1, .nd l r => Tr.comp k l ∧ Tr.comp k r
  | _, _ => False
theorem Tr.full_comp : ∀ k, Tr.comp k (Tr.full k)
  | 0 => trivial
  | k + 1 => ⟨Tr.full_comp k, Tr.full_comp k⟩
theorem Tr.get_full : ∀ (k i : Nat), Tr.get (Tr.full k) i = .und
  | 0, _ => rfl
  | k + 1, i => by
    rw [Tr.full, Tr.get_nd]; split <;> exact Tr.get_full k _
theorem Tr.set_comp : ∀ (k : Nat) (t : Tr) (d : Nat) (v : AV), Tr.comp k t → Tr.comp k (Tr.set t d v)
  | 0, .lf _, _, _, _ => trivial
  | k + 1, .nd l r, d, v, h => by
    rw [Tr.set_nd]; split
    · exact ⟨Tr.set_comp k l _ v h.1, h.2⟩
    · exact ⟨h.1, Tr.set_comp k r _ v h.2⟩
theorem Tr.get_set : ∀ (k : Nat) (t : Tr) (d i : Nat) (v : AV), Tr.comp k t → d < 2 ^ k → i < 2 ^ k → Tr.get (Tr.set t d v) i = if i = d then v else Tr.get t i
  | 0, .lf u, d, i, v, _, hd, hi => by
    have : i = d := by simp at hd hi; omega
    rw [if_pos this]; rfl
  | k + 1, .nd l r, d, i, v, h, hd, hi => by
    have hd2 : d / 2 < 2 ^ k := by rw [Nat.pow_succ] at hd; omega
    have hi2 : i / 2 < 2 ^ k := by rw [Nat.pow_succ] at hi; omega
    rw [Tr.set_nd]
    by_cases h1 : d % 2 = 0
    · rw [if_pos h1, Tr.get_nd, Tr.get_nd]
      by_cases h2 : i % 2 = 0
      · rw [if_pos h2, if_pos h2, Tr.get_set k l (d / 2) (i / 2) v h.1 hd2 hi2]
        by_cases h3 : i = d
        · rw [if_pos h3, if_pos (by rw [h3])]
        · rw [if_neg h3, if_neg (by omega)]
      · rw [if_neg h2, if_neg h2, if_neg (by omega)]
    · rw [if_neg h1, Tr.get_nd, Tr.get_nd]
      by_cases h2 : i % 2 = 0
      · rw [if_pos h2, if_pos h2, if_neg (by omega)]
      · rw [if_neg h2, if_neg h2, Tr.get_set k r (d / 2) (i / 2) v h.2 hd2 hi2]
        by_cases h3 : i = d
        · rw [if_pos h3, if_pos (by rw [h3])]
        · rw [if_neg h3, if_neg (by omega)]

/-- The first n slots, in a tree of 2^k. -/
structure Sl where
  n : Nat
  k : Nat
  t : Tr
def Sl.ok (s : Sl) : Prop := s.n ≤ 2 ^ s.k ∧ Tr.comp s.k s.t
noncomputable def Sl.list (s : Sl) : List AV := (List.range s.n).map (Tr.get s.t)
noncomputable def Sl.set (s : Sl) (d : Option Tmp) (v : AV) : Sl := match d with
  | some d => if d < s.n then ⟨s.n, s.k, Tr.set s.t d v⟩ else s
  | none => s
noncomputable def Sl.opd (s : Sl) : Operand → Option AV
  | .tmp i => if i < s.n then some (Tr.get s.t i) else none
  | .const v => litA v
  | .func f => some (.c (.fn f []))
  | .global g => (Globs.glob g).map .rd
theorem Sl.get_list (s : Sl) (i : Nat) : s.list[i]? = if i < s.n then some (Tr.get s.t i) else none := by
  unfold Sl.list
  rw [List.getElem?_map]
  by_cases h : i < s.n
  · rw [if_pos h, List.getElem?_range h]; rfl
  · rw [if_neg h, List.getElem?_eq_none (by simp; omega)]; rfl
theorem Sl.opd_eq (s : Sl) : s.opd = Ev.opd s.list := funext fun x => by
  cases x with
  | tmp i => simp only [Sl.opd, Ev.opd, Sl.get_list]
  | _ => rfl
theorem Sl.length (s : Sl) : s.list.length = s.n := by simp [Sl.list]
theorem Sl.set_ok {s : Sl} (h : s.ok) (d : Option Tmp) (v : AV) : (s.set d v).ok := by
  unfold Sl.set; split
  · split
    · exact ⟨h.1, Tr.set_comp _ _ _ _ h.2⟩
    · exact h
  · exact h
theorem Sl.set_list {s : Sl} (h : s.ok) (d : Option Tmp) (v : AV) : (s.set d v).list = setD s.list d v := by
  cases d with
  | none => rfl
  | some d =>
    apply List.ext_getElem?
    intro i
    simp only [setD]
    by_cases hd : d < s.n
    · simp only [Sl.set, if_pos hd]
      rw [Sl.get_list]
      have hl : s.list.length = s.n := by simp [Sl.list]
      by_cases hi : i < s.n
      · simp only [if_pos hi]
        rw [Tr.get_set _ _ _ _ _ h.2 (Nat.lt_of_lt_of_le hd h.1) (Nat.lt_of_lt_of_le hi h.1)]
        by_cases e : i = d
        · subst e; rw [if_pos rfl, List.getElem?_set_self (by rw [hl]; exact hd)]
        · rw [if_neg e, List.getElem?_set_ne (Ne.symm e), Sl.get_list, if_pos hi]
      · rw [List.getElem?_eq_none (by simp [hl]; omega)]
        simp only [if_neg hi]
    · have hle : s.list.length ≤ d := by
        rw [show s.list.length = s.n by simp [Sl.list]]; exact Nat.le_of_not_lt hd
      simp only [Sl.set, if_neg hd]
      rw [List.set_eq_of_length_le hle]
noncomputable def fillT : Nat → List AV → Tr → Tr
  | _, [], t => t
  | i, v :: l, t => fillT (i + 1) l (Tr.set t i v)
def log2up : Nat → Nat → Nat → Nat
  | 0, _, k => k
  | f + 1, n, k => if n ≤ 2 ^ k then k else log2up f n (k + 1)
/-- A list's tree. -/
noncomputable def Sl.of (l : List AV) (n : Nat) : Sl := let k := log2up 20 n 0; ⟨n, k, fillT 0 (l.take n) (Tr.full k)⟩
theorem log2up_ok : ∀ (f n k : Nat), n ≤ 2 ^ (k + f) → n ≤ 2 ^ log2up f n k
  | 0, n, k, h => by simpa [log2up] using h
  | f + 1, n, k, h => by
    unfold log2up
    split
    · assumption
    · exact log2up_ok f n (k + 1) (by rw [show k + 1 + f = k + (f + 1) by omega]; exact h)
theorem fillT_get (k : Nat) : ∀ (l : List AV) (i : Nat) (t : Tr), Tr.comp k t → i + l.length ≤ 2 ^ k → Tr.comp k (fillT i l t) ∧ ∀ j, j < 2 ^ k → Tr.get (fillT i l t) j = if i ≤ j ∧ j < i + l.length then (l[j - i]?).getD .und else Tr.get t j
  | [], i, t, hc, _ => ⟨hc, fun j _ => by simp [fillT]; omega⟩
  | v :: l, i, t, hc, hl => by
    simp only [List.length_cons] at hl
    obtain ⟨g1, g2⟩ := fillT_get k l (i + 1) (Tr.set t i v) (Tr.set_comp k t i v hc) (by omega)
    refine ⟨g1, fun j hj => ?_⟩
    unfold fillT
    rw [g2 j hj, Tr.get_set k t i j v hc (by omega) hj]
    by_cases h1 : j = i
    · subst h1
      rw [if_neg (by omega), if_pos rfl, if_pos (by simp)]; simp
    · rw [if_neg h1]
      by_cases h2 : i + 1 ≤ j ∧ j < i + 1 + l.length
      · rw [if_pos h2, if_pos (by simp; omega)]
        rw [show j - i = (j - (i + 1)) + 1 by omega]; simp
      · rw [if_neg h2, if_neg (by simp; omega)]
/-- A list that is short of n is filled with nothing. -/
theorem Sl.of_spec (l : List AV) (n : Nat) (hn : n ≤ 2 ^ 20) (hl : l.length ≤ n) : (Sl.of l n).ok ∧ (Sl.of l n).list = l ++ List.replicate (n - l.length) .und := by
  have hk : n ≤ 2 ^ log2up 20 n 0 := log2up_ok 20 n 0 (by simpa using hn)
  obtain ⟨g1, g2⟩ := fillT_get (log2up 20 n 0) l 0 (Tr.full _) (Tr.full_comp _) (by omega)
  refine ⟨⟨hk, by simp only [Sl.of, List.take_of_length_le hl]; exact g1⟩, ?_⟩
  apply List.ext_getElem?
  intro i
  rw [Sl.get_list]
  simp only [Sl.of, List.take_of_length_le hl]
  by_cases hi : i < n
  · rw [if_pos hi, g2 i (by omega)]
    by_cases h2 : i < l.length
    · rw [if_pos (by omega), List.getElem?_append_left h2, Nat.sub_zero, List.getElem?_eq_getElem h2]; rfl
    · rw [if_neg (by omega), Tr.get_full, List.getElem?_append_right (by omega), List.getElem?_replicate, if_pos (by omega)]
  · rw [if_neg hi, List.getElem?_eq_none (by simp; omega)]
end Go.Ev

/-  The evaluator, part Za: code run to its end, the slots in a tree. -/
namespace Go.Ev
open Go.RowKit
variable [Globs]

def wantedG (ops : Array Oper) (g : Nat → Option AV) (o : Oper) : Option Bool := match o.guard with
  | none => some true
  | some (j, want) => match ((ops[j]?).bind (·.dst)).bind g with
    | some (.c (.bool b)) => some (b == want)
    | some .und => some false
    | _ => none
theorem wantedG_eq (ops : Array Oper) (t : List AV) (o : Oper) : wantedG ops (t[·]?) o = wantedA ops t o := rfl
noncomputable def Sl.at (s : Sl) (i : Nat) : Option AV := if i < s.n then some (Tr.get s.t i) else none
theorem Sl.at_eq (s : Sl) : s.at = (s.list[·]?) := funext fun i => by rw [Sl.get_list]; rfl

def callOfG (ρ : Operand → Option AV) (o : Oper) : Option (FuncId × List AV) := match o.op with
  | .call c => match c.callee with
    | .value fo => match ρ fo, argsG ρ c.args.toList with
      | some fv, some args => match fnOf fv with
        | some (f, caps) => some (f, args ++ caps)
        | none => none
      | _, _ => none
    | _ => none
  | _ => none
theorem callOfG_eq (t : List AV) (o : Oper) : callOfG (opd t) o = callOf t o := by
  unfold callOfG callOf
  simp only [argsG_eq]
  try rfl

def appZ (h : List ABlk) (U : List (Nat × ABlk)) : List ABlk := match U with
  | [] => h
  | p :: U => app h (p :: U)
theorem appZ_eq (h : List ABlk) (U : List (Nat × ABlk)) : appZ h U = app h U := by cases U <;> rfl
abbrev OZ := Option (Sl × List ABlk)
noncomputable def slowOp (E : Env) (ops : Array Oper) (o : Oper) (s : Sl) (h : List ABlk) : OZ := if closes o.op then
    let s1 := freezeIds (o.op.operands.toList.flatMap (idsIn s.list)) ⟨s.list, h⟩
    match evOp E o.op o.type s1.t s1.h s1.h.length with
    | some (v, U) => match wantedA ops s1.t o with
      | some true => if s.n ≤ 1048576 ∧ s1.t.length = s.n then some ((Sl.of s1.t s.n).set o.dst v, app s1.h U) else none
      | _ => none
    | none => none
  else none
noncomputable def stepOp (E : Env) (ops : Array Oper) (o : Oper) (s : Sl) (h : List ABlk) : OZ := match evOpG E o.op o.type s.opd h h.length with
  | some (v, U) => some (s.set o.dst v, appZ h U)
  | none => slowOp E ops o s h
noncomputable def stepCall (K : FuncId → List AV → List ABlk → Option (AV × List ABlk)) (o : Oper) (s : Sl) (h : List ABlk) : OZ := match callOfG s.opd o with
  | some (f, args) => match K f args h with
    | some (r, h') => some (s.set o.dst r, h')
    | none => none
  | none => none
noncomputable def stepZ (E : Env) (K : FuncId → List AV → List ABlk → Option (AV × List ABlk)) (ops : Array Oper) (o : Oper) (s : Sl) (h : List ABlk) : OZ := match wantedG ops s.at o with
  | some true => if goCall o then stepCall K o s h else stepOp E ops o s h
  | some false => some (s.set o.dst .und, h)
  | none => none
noncomputable def execOpsZ (E : Env) (K : FuncId → List AV → List ABlk → Option (AV × List ABlk)) (ops : Array Oper) : List Oper → Sl → List ABlk → OZ
  | [], s, h => some (s, h)
  | o :: os, s, h => match stepZ E K ops o s h with
    | some (s1, h1) => execOpsZ E K ops os s1 h1
    | none => none

theorem Sl.of_same {l : List AV} {n : Nat} (h : n ≤ 1048576 ∧ l.length = n) : (Sl.of l n).ok ∧ (Sl.of l n).list = l := by
  obtain ⟨h1, h2⟩ := Sl.of_spec l n (by have := h.1; simpa using this) (by omega)
  refine ⟨h1, ?_⟩
  rw [h2, h.2]; simp

theorem stepZ_sound {P : Program} {E : Env} (T : TabOK P E) {K : FuncId → List AV → List ABlk → Option (AV × List ABlk)} (hK : CallOK P K) {n : Nat} {ops : Array Oper} {i : Nat} {o : Oper} (hi : ops[i]? = some o) {s s' : Sl} {h h' : List ABlk} (he : stepZ E K ops o s h = some (s', h')) (hs : s.ok) :
    s'.ok ∧ ∀ (l : List Nat) (Q : Exit → St → Prop), RunOps P n ops l Q ⟨s'.list, h'⟩ → RunOps P n ops (i :: l) Q ⟨s.list, h⟩ := by
  unfold stepZ at he
  rw [Sl.at_eq, wantedG_eq] at he
  split at he
  · rename_i hw
    split at he
    · unfold stepCall at he
      rw [Sl.opd_eq, callOfG_eq] at he
      split at he
      · rename_i f us hc
        split at he
        · rename_i r h1 hk
          cases he
          obtain ⟨c, fo, fv, args, caps, q1, q2, q3, q4, q5, rfl⟩ := callOf_spec hc
          refine ⟨Sl.set_ok hs _ _, fun l Q hr => ?_⟩
          rw [Sl.set_list hs] at hr
          exact RunOps.call hi hw q1 q2 q3 q5 q4 (hK _ _ _ _ _ hk) hr
        · cases he
      · cases he
    · unfold stepOp at he
      rw [Sl.opd_eq, evOpG_eq] at he
      split at he
      · rename_i v U hv
        cases he
        refine ⟨Sl.set_ok hs _ _, fun l Q hr => ?_⟩
        rw [Sl.set_list hs, appZ_eq] at hr
        exact RunOps.op T hi hw hv hr
      · unfold slowOp at he
        split at he
        · simp only at he
          split at he
          · rename_i v U hv
            split at he
            · rename_i hw1
              split at he
              · rename_i hn
                cases he
                obtain ⟨k1, k2⟩ := Sl.of_same hn
                refine ⟨Sl.set_ok k1 _ _, fun l Q hr => ?_⟩
                rw [Sl.set_list k1, k2] at hr
                exact RunOps.freezeIds _ (RunOps.op T hi hw1 hv hr)
              · cases he
            · cases he
          · cases he
        · cases he
  · rename_i hw
    cases he
    refine ⟨Sl.set_ok hs _ _, fun l Q hr => ?_⟩
    rw [Sl.set_list hs] at hr
    exact RunOps.skip hi hw hr
  · cases he

theorem execOpsZ_sound {P : Program} {E : Env} (T : TabOK P E) {K : FuncId → List AV → List ABlk → Option (AV × List ABlk)} (hK : CallOK P K) {n : Nat} {ops : Array Oper} : ∀ (os pre : List Oper) (s s' : Sl) (h h' : List ABlk), ops.toList = pre ++ os → execOpsZ E K ops os s h = some (s', h') → s.ok → s'.ok ∧ ∀ Q : Exit → St → Prop, Q .normal ⟨s'.list, h'⟩ → RunOps P n ops (List.range' pre.length os.length) Q ⟨s.list, h⟩
  | [], pre, s, s', h, h', hp, he, hs => by
    simp only [execOpsZ, Option.some.injEq, Prod.mk.injEq] at he
    obtain ⟨rfl, rfl⟩ := he
    exact ⟨hs, fun Q hq => RunOps.nil hq⟩
  | o :: os, pre, s, s', h, h', hp, he, hs => by
    unfold execOpsZ at he
    split at he
    · rename_i s1 h1 hst
      have hi : ops[pre.length]? = some o := by rw [← Array.getElem?_toList, hp]; simp
      obtain ⟨g1, g2⟩ := stepZ_sound T hK (n := n) hi hst hs
      obtain ⟨k1, k2⟩ := execOpsZ_sound T hK os (pre ++ [o]) s1 s' h1 h' (by rw [hp]; simp) he g1
      refine ⟨k1, fun Q hq => ?_⟩
      have := k2 Q hq
      simp only [List.length_append, List.length_singleton] at this
      rw [List.length_cons, List.range'_succ]
      exact g2 _ Q this
    · cases he

noncomputable def bodyZ (E : Env) (X : Code → Sl → List ABlk → Option (Exit × Sl × List ABlk)) (F : FuncId → Option Func) (L : FuncId → List AV → List ABlk → Option (AV × List ABlk)) (f : FuncId) (args : List AV) (h : List ABlk) : Option (AV × List ABlk) :=
  match L f args h with
  | some r => some r
  | none => match F f with
    | none => none
    | some fn => match fn.body with
      | none => none
      | some c => if fn.name == "runtime.NumGoroutine" then none else
        if args.length ≤ fn.ntmps ∧ fn.ntmps ≤ 1048576 then
          match X c (Sl.of args fn.ntmps) h with
          | some (.normal, s, h') | some (.ret, s, h') => (resA E fn.results.toList ⟨s.list, h'⟩).map fun r => ended h.length r h'
          | _ => none
        else none

noncomputable def execZ (E : Env) (F : FuncId → Option Func) (L : FuncId → List AV → List ABlk → Option (AV × List ABlk)) : Nat → Code → Sl → List ABlk → Option (Exit × Sl × List ABlk)
  | 0, _, _, _ => none
  | n + 1, c, s, h => match c with
    | .skip => some (.normal, s, h)
    | .label _ => some (.normal, s, h)
    | .exit id => some (.exit id, s, h)
    | .goto l => some (.goto l, s, h)
    | .ret => some (.ret, s, h)
    | .seq x y => match execZ E F L n x s h with
      | some (.normal, s1, h1) => execZ E F L n y s1 h1
      | r => r
    | .block id c => match execZ E F L n c s h with
      | some (.exit id', s1, h1) => if id' = id then some (.normal, s1, h1) else some (.exit id', s1, h1)
      | r => r
    | .cond c x y => match s.opd c with
      | some (.c (.bool b)) => execZ E F L n (if b then x else y) s h
      | _ => none
    | .loop c => match execZ E F L n c s h with
      | some (.normal, s1, h1) => execZ E F L n (.loop c) s1 h1
      | r => r
    | .region _ ops false => match execOpsZ E (bodyZ E (execZ E F L n) F L) ops ops.toList s h with
      | some (s1, h1) => some (.normal, s1, h1)
      | none => none
    | .region _ ops true => if slotsOK ops then
        match drawn E (shut (bodyZ E (execZ E F L n) F L)) ops ⟨s.list, h⟩ with
        | some s1 => if s.n ≤ 1048576 ∧ s1.t.length = s.n then some (.normal, Sl.of s1.t s.n, s1.h) else none
        | none => none
      else none
    | _ => none

theorem bodyZ_sound {P : Program} {E : Env} (T : TabOK P E) {X : Code → Sl → List ABlk → Option (Exit × Sl × List ABlk)} {F : FuncId → Option Func} {L : FuncId → List AV → List ABlk → Option (AV × List ABlk)} (hF : ∀ f fn, F f = some fn → P.funcs[f]? = some fn) (hL : CallOK P L)
    (hX : ∀ c s h e s' h', X c s h = some (e, s', h') → s.ok → s'.ok ∧ ∀ n, Run P n c (fun e1 s1 => e1 = e ∧ s1 = ⟨s'.list, h'⟩) ⟨s.list, h⟩) : CallOK P (bodyZ E X F L) := by
  intro f args h r h' hb
  unfold bodyZ at hb
  split at hb
  · rename_i r0 h0; cases hb; exact hL _ _ _ _ _ h0
  · split at hb
    · cases hb
    · rename_i fn hfn
      split at hb
      · cases hb
      · rename_i c hc
        split at hb
        · cases hb
        · rename_i hnm
          split at hb
          · rename_i hn
            obtain ⟨k1, k2⟩ := Sl.of_spec args fn.ntmps (by have := hn.2; simpa using this) hn.1
            have fin : ∀ e s h1, (e = .normal ∨ e = .ret) → X c (Sl.of args fn.ntmps) h = some (e, s, h1) → (resA E fn.results.toList ⟨s.list, h1⟩).map (fun r => ended h.length r h1) = some (r, h') → Good P f args h r h' := fun e s h2 he hx hb => by
              obtain ⟨r1, hr1, hend⟩ := Option.map_eq_some_iff.1 hb
              have hrun := (hX _ _ _ _ _ _ hx k1).2 h.length
              rw [k2] at hrun
              have G : Good P f args h r1 h2 := Good.of_run T (hF f fn hfn) hc (by simpa using hnm) (hrun.mono fun e1 s1 ⟨q1, q2⟩ => by
                rw [q1, q2]; exact ⟨he, hr1, rfl⟩)
              unfold ended at hend
              split at hend
              · rename_i hst
                cases hend
                exact G.trim (Nat.le_refl _) hst
              · cases hend; exact G
            split at hb
            · rename_i s h1 hx; exact fin _ s h1 (.inl rfl) hx hb
            · rename_i s h1 hx; exact fin _ s h1 (.inr rfl) hx hb
            · cases hb
          · cases hb

theorem inBlockS_hit {id id' : Nat} {Q : Exit → St → Prop} {s : St} (h : id' = id) (hq : Q .normal s) : inBlockS id Q (.exit id') s := by
  simp only [inBlockS, if_pos h]; exact hq
theorem inBlockS_miss {id id' : Nat} {Q : Exit → St → Prop} {s : St} (h : ¬ id' = id) (hq : Q (.exit id') s) : inBlockS id Q (.exit id') s := by
  simp only [inBlockS, if_neg h]; exact hq

theorem execZ_sound {P : Program} {E : Env} (T : TabOK P E) {F : FuncId → Option Func} {L : FuncId → List AV → List ABlk → Option (AV × List ABlk)} (hF : ∀ f fn, F f = some fn → P.funcs[f]? = some fn) (hL : CallOK P L) :
    ∀ (fuel : Nat) (c : Code) (s : Sl) (h : List ABlk) (e : Exit) (s' : Sl) (h' : List ABlk), execZ E F L fuel c s h = some (e, s', h') → s.ok → s'.ok ∧ ∀ n, Run P n c (fun e1 s1 => e1 = e ∧ s1 = ⟨s'.list, h'⟩) ⟨s.list, h⟩ := by
  intro fuel
  induction fuel using Nat.strongRecOn with
  | _ fuel IH =>
  cases fuel with
  | zero => intro c s h e s' h' hx; simp [execZ] at hx
  | succ fuel =>
    intro c s h e s' h' hx hs
    have ih := IH fuel (by omega)
    have hK : CallOK P (bodyZ E (execZ E F L fuel) F L) := bodyZ_sound T hF hL ih
    cases c with
    | skip => simp only [execZ, Option.some.injEq, Prod.mk.injEq] at hx; obtain ⟨rfl, rfl, rfl⟩ := hx; exact ⟨hs, fun n => Run.skip ⟨rfl, rfl⟩⟩
    | label l => simp only [execZ, Option.some.injEq, Prod.mk.injEq] at hx; obtain ⟨rfl, rfl, rfl⟩ := hx; exact ⟨hs, fun n => Run.label ⟨rfl, rfl⟩⟩
    | exit id => simp only [execZ, Option.some.injEq, Prod.mk.injEq] at hx; obtain ⟨rfl, rfl, rfl⟩ := hx; exact ⟨hs, fun n => Run.exit ⟨rfl, rfl⟩⟩
    | goto id => simp only [execZ, Option.some.injEq, Prod.mk.injEq] at hx; obtain ⟨rfl, rfl, rfl⟩ := hx; exact ⟨hs, fun n => Run.goto ⟨rfl, rfl⟩⟩
    | ret => simp only [execZ, Option.some.injEq, Prod.mk.injEq] at hx; obtain ⟨rfl, rfl, rfl⟩ := hx; exact ⟨hs, fun n => Run.ret ⟨rfl, rfl⟩⟩
    | seq x y =>
      simp only [execZ] at hx
      cases hy : execZ E F L fuel x s h with
      | none => rw [hy] at hx; cases hx
      | some p =>
        obtain ⟨e1, s1, h1⟩ := p
        rw [hy] at hx
        obtain ⟨k1, k2⟩ := ih _ _ _ _ _ _ hy hs
        cases e1 with
        | normal =>
          simp only at hx
          obtain ⟨g1, g2⟩ := ih _ _ _ _ _ _ hx k1
          exact ⟨g1, fun n => Run.seq ((k2 n).mono fun e9 s9 ⟨q1, q2⟩ => by rw [q1, q2]; exact g2 n)⟩
        | _ =>
          simp only [Option.some.injEq, Prod.mk.injEq] at hx
          obtain ⟨rfl, rfl, rfl⟩ := hx
          exact ⟨k1, fun n => Run.seq ((k2 n).mono fun e9 s9 ⟨q1, q2⟩ => by rw [q1, q2]; exact ⟨rfl, rfl⟩)⟩
    | block id c =>
      simp only [execZ] at hx
      cases hy : execZ E F L fuel c s h with
      | none => rw [hy] at hx; cases hx
      | some p =>
        obtain ⟨e1, s1, h1⟩ := p
        rw [hy] at hx
        obtain ⟨k1, k2⟩ := ih _ _ _ _ _ _ hy hs
        cases e1 with
        | exit id' =>
          simp only at hx
          split at hx <;> rename_i hid <;> simp only [Option.some.injEq, Prod.mk.injEq] at hx <;> obtain ⟨rfl, rfl, rfl⟩ := hx
          · exact ⟨k1, fun n => Run.block ((k2 n).mono fun e9 s9 ⟨q1, q2⟩ => by rw [q1, q2]; exact inBlockS_hit hid ⟨rfl, rfl⟩)⟩
          · exact ⟨k1, fun n => Run.block ((k2 n).mono fun e9 s9 ⟨q1, q2⟩ => by rw [q1, q2]; exact inBlockS_miss hid ⟨rfl, rfl⟩)⟩
        | _ =>
          simp only [Option.some.injEq, Prod.mk.injEq] at hx
          obtain ⟨rfl, rfl, rfl⟩ := hx
          exact ⟨k1, fun n => Run.block ((k2 n).mono fun e9 s9 ⟨q1, q2⟩ => by rw [q1, q2]; exact ⟨rfl, rfl⟩)⟩
    | cond c x y =>
      simp only [execZ, Sl.opd_eq] at hx
      split at hx
      · rename_i b hb
        obtain ⟨k1, k2⟩ := ih _ _ _ _ _ _ hx hs
        exact ⟨k1, fun n => Run.cond hb (k2 n)⟩
      · cases hx
    | loop c =>
      refine ⟨?_, fun n => ?_⟩
      · have key : ∀ (j : Nat) (s1 : Sl) (h1 : List ABlk), j ≤ fuel + 1 → s1.ok → execZ E F L j (.loop c) s1 h1 = some (e, s', h') → s'.ok := by
          intro j
          induction j using Nat.strongRecOn with
          | _ j IHj =>
          intro s1 h1 hj hok hx1
          cases j with
          | zero => simp [execZ] at hx1
          | succ j =>
            simp only [execZ] at hx1
            cases hy : execZ E F L j c s1 h1 with
            | none => rw [hy] at hx1; cases hx1
            | some p =>
              obtain ⟨e1, s2, h2⟩ := p
              rw [hy] at hx1
              obtain ⟨k1, _⟩ := IH j (by omega) _ _ _ _ _ _ hy hok
              cases e1 with
              | normal => exact IHj j (by omega) s2 h2 (by omega) k1 hx1
              | _ => simp only [Option.some.injEq, Prod.mk.injEq] at hx1; obtain ⟨_, rfl, _⟩ := hx1; exact k1
        exact key (fuel + 1) s h (Nat.le_refl _) hs hx
      · refine Run.loop (fun j s1 => ∃ s2 h2, s1 = ⟨s2.list, h2⟩ ∧ s2.ok ∧ j ≤ fuel + 1 ∧ execZ E F L j (.loop c) s2 h2 = some (e, s', h')) (fuel + 1) ⟨s, h, rfl, hs, Nat.le_refl _, hx⟩ ?_
        rintro j s1 ⟨s2, h2, rfl, hok, hj, hx1⟩
        cases j with
        | zero => simp [execZ] at hx1
        | succ j =>
          simp only [execZ] at hx1
          cases hy : execZ E F L j c s2 h2 with
          | none => rw [hy] at hx1; cases hx1
          | some p =>
            obtain ⟨e1, s3, h3⟩ := p
            rw [hy] at hx1
            obtain ⟨k1, k2⟩ := IH j (by omega) _ _ _ _ _ _ hy hok
            refine (k2 n).mono fun e9 s9 ⟨q1, q2⟩ => ?_
            rw [q1, q2]
            cases e1 with
            | normal => exact ⟨j, by omega, s3, h3, rfl, k1, by omega, hx1⟩
            | _ =>
              simp only [Option.some.injEq, Prod.mk.injEq] at hx1
              obtain ⟨rfl, rfl, rfl⟩ := hx1
              exact ⟨rfl, rfl⟩
    | region id ops draw =>
      cases draw with
      | false =>
        simp only [execZ] at hx
        split at hx
        · rename_i s1 h1 hy
          cases hx
          refine ⟨(execOpsZ_sound (n := 0) T hK _ [] _ _ _ _ rfl hy hs).1, fun n => Run.region ?_⟩
          rw [List.range_eq_range']
          have := (execOpsZ_sound (n := n) T hK _ [] _ _ _ _ rfl hy hs).2
          simp only [List.length_nil, Array.length_toList] at this
          exact this _ ⟨rfl, rfl⟩
        · cases hx
      | true =>
        simp only [execZ] at hx
        split at hx
        · rename_i hsl
          split at hx
          · rename_i s1 hd
            split at hx
            · rename_i hn
              obtain ⟨k1, k2⟩ := Sl.of_same hn
              cases hx
              refine ⟨k1, fun n => Run.drawn T (shut_sound hK) hsl hd ⟨rfl, ?_⟩⟩
              rw [k2]
            · cases hx
          · cases hx
        · cases hx
    | rangeFunc _ _ _ _ => simp [execZ] at hx
    | scope _ => simp [execZ] at hx
    | refuse _ => simp [execZ] at hx

/-- A closed call, reckoned. -/
theorem Good.reckoned {P : Program} (hm : P.follows .mixedOrders = true) {L : FuncId → List AV → List ABlk → Option (AV × List ABlk)} (hL : CallOK P L) {fuel : Nat} {f : FuncId} {args : List AV} {h : List ABlk} {r : AV} {h' : List ABlk}
    (hx : bodyZ (envOf P) (execZ (envOf P) (fun f => P.funcs[f]?) L fuel) (fun f => P.funcs[f]?) L f args h = some (r, h')) : Good P f args h r h' :=
  bodyZ_sound (envOf_ok hm) (fun _ _ h => h) hL (execZ_sound (envOf_ok hm) (fun _ _ h => h) hL fuel) _ _ _ _ _ hx
end Go.Ev

/-  The evaluator, part Vc: what is to be shown of a piece of code, as a formula. -/
namespace Go.Ev
open Go.RowKit
variable [Globs]

/-- Some value comes, and k holds of it. -/
def Wp {α : Type} (x : Option α) (k : α → Prop) : Prop := ∃ a, x = some a ∧ k a
theorem wp_some {α : Type} (a : α) (k : α → Prop) : Wp (some a) k = k a := propext ⟨fun ⟨b, h, hk⟩ => by cases h; exact hk, fun h => ⟨a, rfl, h⟩⟩
theorem wp_none {α : Type} (k : α → Prop) : Wp none k = False := propext ⟨fun ⟨b, h, hk⟩ => (by cases h), fun h => h.elim⟩
theorem wp_if {α : Type} {g : Prop} [Decidable g] (x : Option α) (k : α → Prop) : Wp (if g then x else none) k = (g ∧ Wp x k) := by
  by_cases h : g
  · rw [if_pos h]; exact propext ⟨fun hx => ⟨h, hx⟩, fun hx => hx.2⟩
  · rw [if_neg h, wp_none]; exact propext ⟨False.elim, fun hx => h hx.1⟩
theorem wp_ifn {α : Type} {g : Prop} [Decidable g] (x : Option α) (k : α → Prop) : Wp (if g then none else x) k = (¬ g ∧ Wp x k) := by
  by_cases h : g
  · rw [if_pos h, wp_none]; exact propext ⟨False.elim, fun hx => hx.1 h⟩
  · rw [if_neg h]; exact propext ⟨fun hx => ⟨h, hx⟩, fun hx => hx.2⟩
theorem wp_map {α β : Type} (f : α → β) (x : Option α) (k : β → Prop) : Wp (x.map f) k = Wp x fun a => k (f a) := propext
  ⟨fun ⟨b, h, hk⟩ => by obtain ⟨a, ha, rfl⟩ := Option.map_eq_some_iff.1 h; exact ⟨a, ha, hk⟩, fun ⟨a, ha, hk⟩ => ⟨f a, by rw [ha]; rfl, hk⟩⟩
theorem wp_get {α : Type} (xs : List α) (i : Nat) (k : α → Prop) : Wp xs[i]? k = ∃ h : i < xs.length, k xs[i] := propext
  ⟨fun ⟨a, ha, hk⟩ => by obtain ⟨h, rfl⟩ := List.getElem?_eq_some_iff.1 ha; exact ⟨h, hk⟩, fun ⟨h, hk⟩ => ⟨_, List.getElem?_eq_getElem h, hk⟩⟩
theorem Wp.of {α : Type} {x : Option α} {a : α} {k : α → Prop} (hx : x = some a) (hk : k a) : Wp x k := ⟨a, hx, hk⟩

/-- A call: some contract of it. -/
def vcCall (P : Program) (f : FuncId) (args : List AV) (h : List ABlk) (k : AV → List ABlk → Prop) : Prop := ∃ r h', Good P f args h r h' ∧ k r h'
theorem vcCall.of {P : Program} {f : FuncId} {args : List AV} {h : List ABlk} {k : AV → List ABlk → Prop} {r : AV} {h' : List ABlk} (G : Good P f args h r h') (hk : k r h') : vcCall P f args h k := ⟨r, h', G, hk⟩

/-- Rows that must be held by value where they are laid. -/
def fzIds (op : Op) (t : List AV) : List Nat := match op with
  | .buildSlice _ _ ps => (ps.toList.map (·.2)).flatMap (idsIn t)
  | .store _ a x => match opd t a with
    | some (.er _ _ _) => idsIn t x
    | _ => []
  | _ => []

/-- What is left to do behind a piece of code. -/
inductive Fr where
  | seq (y : Code)
  | blk (id : Nat)
  | lp (J : St → Prop)

/-- What is not turned while code is run. -/
structure Ctx where
  P : Program
  E : Env
  n : Nat
  Q : Exit → St → Prop

/-- Where the run stands. -/
inductive Md where
  | code (c : Code)
  | exit (e : Exit)
  | br (v : Option AV) (x y : Code)
  | ops (a : Array Oper) (l : List Oper)
  | opw (a : Array Oper) (o : Oper) (l : List Oper) (w : Option Bool)
  | opg (a : Array Oper) (o : Oper) (l : List Oper) (b : Bool)
  | opc (a : Array Oper) (o : Oper) (l : List Oper) (c : Option (FuncId × List AV))
  | opf (a : Array Oper) (o : Oper) (l : List Oper) (ids : List Nat)
  | opx (a : Array Oper) (o : Oper) (l : List Oper) (w : Option Bool)
  | opv (a : Array Oper) (o : Oper) (l : List Oper) (v : Option (AV × List (Nat × ABlk)))

def unw (G : Ctx) : List Fr → Exit → St → Prop
  | [], e, s => G.Q e s
  | .seq y :: K, e, s => thenS (fun s => Run G.P G.n y (unw G K) s) (unw G K) e s
  | .blk id :: K, e, s => inBlockS id (unw G K) e s
  | .lp J :: K, e, s => thenS J (unw G K) e s

/-- Operations from one on. -/
def Ahead (G : Ctx) (a : Array Oper) (l : List Oper) (K : List Fr) (s : St) : Prop := ∀ pre, a.toList = pre ++ l → RunOps G.P G.n a (List.range' pre.length l.length) (unw G K) s

def Sem (G : Ctx) : Md → List Fr → St → Prop
  | .code c, K, s => Run G.P G.n c (unw G K) s
  | .exit e, K, s => unw G K e s
  | .br v x y, K, s => ∃ b, v = some (.c (.bool b)) ∧ Run G.P G.n (if b then x else y) (unw G K) s
  | .ops a l, K, s => Ahead G a l K s
  | .opw a o l w, K, s => wantedA a s.t o = w → Ahead G a (o :: l) K s
  | .opg a o l b, K, s => wantedA a s.t o = some true → goCall o = b → Ahead G a (o :: l) K s
  | .opc a o l c, K, s => wantedA a s.t o = some true → callOf s.t o = c → Ahead G a (o :: l) K s
  | .opf a o l ids, K, s => wantedA a s.t o = some true → Ahead G a (o :: l) K s
  | .opx a o l w, K, s => wantedA a s.t o = w → Ahead G a (o :: l) K s
  | .opv a o l v, K, s => wantedA a s.t o = some true → evOp G.E o.op o.type s.t s.h s.h.length = v → Ahead G a (o :: l) K s

/-- A loop that is met: its own proof follows. -/
def Lp (G : Ctx) (c : Code) (K : List Fr) (s : St) : Prop := Run G.P G.n (.loop c) (unw G K) s
/-- A region that draws its order. -/
def Dr (G : Ctx) (a : Array Oper) (K : List Fr) (s : St) : Prop := ∀ id, Run G.P G.n (.region id a true) (unw G K) s
/-- A call that is met: its contract follows. -/
def Cl (G : Ctx) (f : FuncId) (args : List AV) (d : Option Tmp) (a : Array Oper) (l : List Oper) (K : List Fr) (s : St) : Prop :=
  ∃ r h', Good G.P f args s.h r h' ∧ Ahead G a l K ⟨setD s.t d r, h'⟩

def vm (G : Ctx) : Nat → Md → List Fr → St → Prop
  | 0, m, K, s => Sem G m K s
  | k + 1, .code c, K, s => match c with
    | .skip => vm G k (.exit .normal) K s
    | .label _ => vm G k (.exit .normal) K s
    | .exit id => vm G k (.exit (.exit id)) K s
    | .goto l => vm G k (.exit (.goto l)) K s
    | .ret => vm G k (.exit .ret) K s
    | .seq x y => vm G k (.code x) (.seq y :: K) s
    | .block id c => vm G k (.code c) (.blk id :: K) s
    | .cond c x y => vm G k (.br (opd s.t c) x y) K s
    | .loop c => Lp G c K s
    | .region _ a false => vm G k (.ops a a.toList) K s
    | .region _ a true => Dr G a K s
    | c => Sem G (.code c) K s
  | k + 1, .exit e, K, s => match K with
    | [] => G.Q e s
    | .seq y :: K => match e with
      | .normal => vm G k (.code y) K s
      | e => vm G k (.exit e) K s
    | .blk id :: K => match e with
      | .exit id' => if id' = id then vm G k (.exit .normal) K s else vm G k (.exit (.exit id')) K s
      | e => vm G k (.exit e) K s
    | .lp J :: K => match e with
      | .normal => J s
      | e => vm G k (.exit e) K s
  | k + 1, .br v x y, K, s => match v with
    | some (.c (.bool b)) => (b = true → vm G k (.code x) K s) ∧ (b = false → vm G k (.code y) K s)
    | _ => False
  | k + 1, .ops a l, K, s => match l with
    | [] => vm G k (.exit .normal) K s
    | o :: l => vm G k (.opw a o l (wantedA a s.t o)) K s
  | k + 1, .opw a o l w, K, s => match w with
    | some false => vm G k (.ops a l) K ⟨setD s.t o.dst .und, s.h⟩
    | some true => vm G k (.opg a o l (goCall o)) K s
    | none => False
  | k + 1, .opg a o l b, K, s => match b with
    | true => vm G k (.opc a o l (callOf s.t o)) K s
    | false => vm G k (.opf a o l (fzIds o.op s.t)) K s
  | k + 1, .opc a o l c, K, s => match c with
    | some (f, args) => Cl G f args o.dst a l K s
    | none => False
  | k + 1, .opf a o l ids, K, s => match ids with
    | [] => vm G k (.opv a o l (evOp G.E o.op o.type s.t s.h s.h.length)) K s
    | id :: ids => match freezeIds (id :: ids) s with
      | s1 => vm G k (.opx a o l (wantedA a s1.t o)) K s1
  | k + 1, .opx a o l w, K, s => match w with
    | some true => vm G k (.opv a o l (evOp G.E o.op o.type s.t s.h s.h.length)) K s
    | _ => False
  | k + 1, .opv a o l v, K, s => match v with
    | some (v, U) => vm G k (.ops a l) K ⟨setD s.t o.dst v, app s.h U⟩
    | none => False

theorem Ahead.next {G : Ctx} {a : Array Oper} {o : Oper} {l : List Oper} {K : List Fr} {s s1 : St} (h : Ahead G a l K s1)
    (hs : ∀ i rest, a[i]? = some o → RunOps G.P G.n a rest (unw G K) s1 → RunOps G.P G.n a (i :: rest) (unw G K) s) : Ahead G a (o :: l) K s := fun pre hp => by
  have hi : a[pre.length]? = some o := by rw [← Array.getElem?_toList, hp]; simp
  have := h (pre ++ [o]) (by rw [hp]; simp)
  simp only [List.length_append, List.length_singleton] at this
  rw [List.length_cons, List.range'_succ]
  exact hs _ _ hi this

theorem vm_sem {G : Ctx} (T : TabOK G.P G.E) : ∀ (k : Nat) (m : Md) (K : List Fr) (s : St), vm G k m K s → Sem G m K s := by
  intro k
  induction k with
  | zero => intro m K s h; exact h
  | succ k ih =>
    intro m K s h
    cases m with
    | code c =>
      cases c with
      | skip => exact Run.skip (ih _ _ _ h)
      | label _ => exact Run.label (ih _ _ _ h)
      | exit id => exact Run.exit (ih _ _ _ h)
      | goto l => exact Run.goto (ih _ _ _ h)
      | ret => exact Run.ret (ih _ _ _ h)
      | seq x y => exact Run.seq (ih _ _ _ h)
      | block id c => exact Run.block (ih _ _ _ h)
      | cond c x y =>
        obtain ⟨b, hb, h⟩ := ih _ _ _ h
        exact Run.cond hb h
      | loop c => exact h
      | region id a d =>
        cases d with
        | true => exact h id
        | false =>
          have := ih _ _ _ h [] rfl
          refine Run.region ?_
          rw [List.range_eq_range']
          simpa using this
      | rangeFunc _ _ _ _ => exact h
      | scope _ => exact h
      | refuse _ => exact h
    | exit e =>
      cases K with
      | nil => exact h
      | cons fr K =>
        cases fr with
        | seq y => cases e <;> (simp only [vm] at h; have h2 := ih _ _ _ h; exact h2)
        | blk id =>
          cases e with
          | exit id' =>
            simp only [vm] at h
            simp only [Sem, unw, inBlockS]
            split at h <;> rename_i he
            · rw [if_pos he]; have h2 := ih _ _ _ h; exact h2
            · rw [if_neg he]; have h2 := ih _ _ _ h; exact h2
          | _ => simp only [vm] at h; have h2 := ih _ _ _ h; exact h2
        | lp J =>
          cases e with
          | normal => exact h
          | _ => simp only [vm] at h; have h2 := ih _ _ _ h; exact h2
    | br v x y =>
      simp only [vm] at h
      split at h
      · rename_i b
        refine ⟨b, rfl, ?_⟩
        cases b with
        | true => exact ih _ _ _ (h.1 rfl)
        | false => exact ih _ _ _ (h.2 rfl)
      · exact h.elim
    | ops a l =>
      cases l with
      | nil => exact fun pre hp => RunOps.nil (ih _ _ _ h)
      | cons o l => exact ih _ _ _ h rfl
    | opw a o l w =>
      intro hw
      simp only [vm] at h
      split at h
      · exact Ahead.next (ih _ _ _ h) fun i rest hi hr => RunOps.skip hi hw hr
      · exact ih _ _ _ h hw rfl
      · exact h.elim
    | opg a o l b =>
      intro hw hg
      simp only [vm] at h
      split at h
      · exact ih _ _ _ h hw rfl
      · exact ih _ _ _ h hw
    | opc a o l c =>
      intro hw hc
      simp only [vm] at h
      split at h
      · rename_i f us
        obtain ⟨r, h1, GG, h⟩ := h
        obtain ⟨c, fo, fv, args, caps, q1, q2, q3, q4, q5, rfl⟩ := callOf_spec hc
        exact Ahead.next h fun i rest hi hr => RunOps.call hi hw q1 q2 q3 q5 q4 GG hr
      · exact h.elim
    | opf a o l ids =>
      intro hw
      cases ids with
      | nil => exact ih _ _ _ h hw rfl
      | cons id ids =>
        have := ih _ _ _ h rfl
        intro pre hp
        exact RunOps.freezeIds (id :: ids) (this pre hp)
    | opx a o l w =>
      intro hw
      simp only [vm] at h
      split at h
      · exact ih _ _ _ h hw rfl
      · exact h.elim
    | opv a o l v =>
      intro hw hv
      simp only [vm] at h
      split at h
      · exact Ahead.next (ih _ _ _ h) fun i rest hi hr => RunOps.op T hi hw hv hr
      · exact h.elim

/-! # the steps, as equations -/
section
variable {G : Ctx} {k : Nat} {K : List Fr} {s : St}
theorem vm_skip : vm G (k + 1) (.code .skip) K s = vm G k (.exit .normal) K s := propext Iff.rfl
theorem vm_label {l : Nat} : vm G (k + 1) (.code (.label l)) K s = vm G k (.exit .normal) K s := propext Iff.rfl
theorem vm_exit {id : Nat} : vm G (k + 1) (.code (.exit id)) K s = vm G k (.exit (.exit id)) K s := propext Iff.rfl
theorem vm_goto {l : Nat} : vm G (k + 1) (.code (.goto l)) K s = vm G k (.exit (.goto l)) K s := propext Iff.rfl
theorem vm_ret : vm G (k + 1) (.code .ret) K s = vm G k (.exit .ret) K s := propext Iff.rfl
theorem vm_seq {x y : Code} : vm G (k + 1) (.code (.seq x y)) K s = vm G k (.code x) (.seq y :: K) s := propext Iff.rfl
theorem vm_block {id : Nat} {c : Code} : vm G (k + 1) (.code (.block id c)) K s = vm G k (.code c) (.blk id :: K) s := propext Iff.rfl
theorem vm_cond {c : Operand} {x y : Code} : vm G (k + 1) (.code (.cond c x y)) K s = vm G k (.br (opd s.t c) x y) K s := propext Iff.rfl
theorem vm_loop {c : Code} : vm G (k + 1) (.code (.loop c)) K s = Lp G c K s := propext Iff.rfl
theorem vm_region {id : Nat} {a : Array Oper} : vm G (k + 1) (.code (.region id a false)) K s = vm G k (.ops a a.toList) K s := propext Iff.rfl
theorem vm_drawn {id : Nat} {a : Array Oper} : vm G (k + 1) (.code (.region id a true)) K s = Dr G a K s := propext Iff.rfl
theorem vm_end {e : Exit} : vm G (k + 1) (.exit e) [] s = G.Q e s := propext Iff.rfl
theorem vm_then {y : Code} : vm G (k + 1) (.exit .normal) (.seq y :: K) s = vm G k (.code y) K s := propext Iff.rfl
theorem vm_then_ret {y : Code} : vm G (k + 1) (.exit .ret) (.seq y :: K) s = vm G k (.exit .ret) K s := propext Iff.rfl
theorem vm_then_exit {y : Code} {id : Nat} : vm G (k + 1) (.exit (.exit id)) (.seq y :: K) s = vm G k (.exit (.exit id)) K s := propext Iff.rfl
theorem vm_blk {id : Nat} : vm G (k + 1) (.exit .normal) (.blk id :: K) s = vm G k (.exit .normal) K s := propext Iff.rfl
theorem vm_blk_ret {id : Nat} : vm G (k + 1) (.exit .ret) (.blk id :: K) s = vm G k (.exit .ret) K s := propext Iff.rfl
theorem vm_blk_exit {id id' : Nat} : vm G (k + 1) (.exit (.exit id')) (.blk id :: K) s = if id' = id then vm G k (.exit .normal) K s else vm G k (.exit (.exit id')) K s := propext Iff.rfl
theorem vm_lp {J : St → Prop} : vm G (k + 1) (.exit .normal) (.lp J :: K) s = J s := propext Iff.rfl
theorem vm_lp_ret {J : St → Prop} : vm G (k + 1) (.exit .ret) (.lp J :: K) s = vm G k (.exit .ret) K s := propext Iff.rfl
theorem vm_lp_exit {J : St → Prop} {id : Nat} : vm G (k + 1) (.exit (.exit id)) (.lp J :: K) s = vm G k (.exit (.exit id)) K s := propext Iff.rfl
theorem vm_br_true {x y : Code} : vm G (k + 1) (.br (some (.c (.bool true))) x y) K s = vm G k (.code x) K s := propext ⟨fun h => h.1 rfl, fun h => ⟨fun _ => h, fun h => by cases h⟩⟩
theorem vm_br_false {x y : Code} : vm G (k + 1) (.br (some (.c (.bool false))) x y) K s = vm G k (.code y) K s := propext ⟨fun h => h.2 rfl, fun h => ⟨fun h => (by cases h), fun _ => h⟩⟩
theorem vm_br_decide {p : Prop} [Decidable p] {x y : Code} : vm G (k + 1) (.br (some (.c (.bool (decide p)))) x y) K s = ((p → vm G k (.code x) K s) ∧ (¬ p → vm G k (.code y) K s)) := by simp [vm]
theorem vm_br_beq {α : Type} [BEq α] [LawfulBEq α] {a b : α} {x y : Code} : vm G (k + 1) (.br (some (.c (.bool (a == b)))) x y) K s = ((a = b → vm G k (.code x) K s) ∧ (a ≠ b → vm G k (.code y) K s)) := by simp [vm]
theorem vm_br_bne {α : Type} [BEq α] [LawfulBEq α] {a b : α} {x y : Code} : vm G (k + 1) (.br (some (.c (.bool (a != b)))) x y) K s = ((a ≠ b → vm G k (.code x) K s) ∧ (a = b → vm G k (.code y) K s)) := by simp [vm]
theorem vm_br_not {b : Bool} {x y : Code} : vm G (k + 1) (.br (some (.c (.bool (!b)))) x y) K s = vm G (k + 1) (.br (some (.c (.bool b))) y x) K s := by cases b <;> simp [vm]
theorem vm_br {b : Bool} {x y : Code} (h1 : b = true → vm G k (.code x) K s) (h2 : b = false → vm G k (.code y) K s) : vm G (k + 1) (.br (some (.c (.bool b))) x y) K s := ⟨h1, h2⟩
theorem vm_ops_nil {a : Array Oper} : vm G (k + 1) (.ops a []) K s = vm G k (.exit .normal) K s := propext Iff.rfl
theorem vm_ops {a : Array Oper} {o : Oper} {l : List Oper} : vm G (k + 1) (.ops a (o :: l)) K s = vm G k (.opw a o l (wantedA a s.t o)) K s := propext Iff.rfl
theorem vm_opw_true {a : Array Oper} {o : Oper} {l : List Oper} : vm G (k + 1) (.opw a o l (some true)) K s = vm G k (.opg a o l (goCall o)) K s := propext Iff.rfl
theorem vm_opw_false {a : Array Oper} {o : Oper} {l : List Oper} : vm G (k + 1) (.opw a o l (some false)) K s = vm G k (.ops a l) K ⟨setD s.t o.dst .und, s.h⟩ := propext Iff.rfl
theorem vm_opw {a : Array Oper} {o : Oper} {l : List Oper} {b : Bool} (h1 : b = true → vm G k (.opg a o l (goCall o)) K s) (h2 : b = false → vm G k (.ops a l) K ⟨setD s.t o.dst .und, s.h⟩) : vm G (k + 1) (.opw a o l (some b)) K s := by
  cases b
  · exact h2 rfl
  · exact h1 rfl
theorem vm_opg_true {a : Array Oper} {o : Oper} {l : List Oper} : vm G (k + 1) (.opg a o l true) K s = vm G k (.opc a o l (callOf s.t o)) K s := propext Iff.rfl
theorem vm_opg_false {a : Array Oper} {o : Oper} {l : List Oper} : vm G (k + 1) (.opg a o l false) K s = vm G k (.opf a o l (fzIds o.op s.t)) K s := propext Iff.rfl
theorem vm_opc {a : Array Oper} {o : Oper} {l : List Oper} {f : FuncId} {args : List AV} : vm G (k + 1) (.opc a o l (some (f, args))) K s = Cl G f args o.dst a l K s := propext Iff.rfl
theorem vm_opf_nil {a : Array Oper} {o : Oper} {l : List Oper} : vm G (k + 1) (.opf a o l []) K s = vm G k (.opv a o l (evOp G.E o.op o.type s.t s.h s.h.length)) K s := propext Iff.rfl
theorem vm_opf_cons {a : Array Oper} {o : Oper} {l : List Oper} {id : Nat} {ids : List Nat} : vm G (k + 1) (.opf a o l (id :: ids)) K s = vm G k (.opx a o l (wantedA a (freezeIds (id :: ids) s).t o)) K (freezeIds (id :: ids) s) := propext Iff.rfl
theorem vm_opx {a : Array Oper} {o : Oper} {l : List Oper} : vm G (k + 1) (.opx a o l (some true)) K s = vm G k (.opv a o l (evOp G.E o.op o.type s.t s.h s.h.length)) K s := propext Iff.rfl
theorem vm_opv {a : Array Oper} {o : Oper} {l : List Oper} {v : AV} {U : List (Nat × ABlk)} : vm G (k + 1) (.opv a o l (some (v, U))) K s = vm G k (.ops a l) K ⟨setD s.t o.dst v, app s.h U⟩ := propext Iff.rfl
theorem vm_opv_none {a : Array Oper} {o : Oper} {l : List Oper} : vm G (k + 1) (.opv a o l none) K s = False := propext Iff.rfl
theorem vm_opv_if {a : Array Oper} {o : Oper} {l : List Oper} {p : Prop} [Decidable p] {x : Option (AV × List (Nat × ABlk))} : vm G (k + 1) (.opv a o l (if p then x else none)) K s = (p ∧ vm G (k + 1) (.opv a o l x) K s) := by
  by_cases h : p
  · rw [if_pos h]; simp [h]
  · rw [if_neg h]; simp [h, vm]
theorem vm_opv_ifn {a : Array Oper} {o : Oper} {l : List Oper} {p : Prop} [Decidable p] {x : Option (AV × List (Nat × ABlk))} : vm G (k + 1) (.opv a o l (if p then none else x)) K s = (¬ p ∧ vm G (k + 1) (.opv a o l x) K s) := by
  by_cases h : p
  · rw [if_pos h]; simp [h, vm]
  · rw [if_neg h]; simp [h]
theorem vm_opv_get {a : Array Oper} {o : Oper} {l : List Oper} {α : Type} {xs : List α} {i : Nat} {f : α → AV × List (Nat × ABlk)} : vm G (k + 1) (.opv a o l (xs[i]?.map f)) K s = ∃ h : i < xs.length, vm G (k + 1) (.opv a o l (some (f xs[i]))) K s := by
  by_cases h : i < xs.length
  · rw [List.getElem?_eq_getElem h]; simp [h]
  · rw [List.getElem?_eq_none (by omega)]; simp [h, vm]
theorem Cl.of {f : FuncId} {args : List AV} {d : Option Tmp} {a : Array Oper} {l : List Oper} {r : AV} {h' : List ABlk} (T : TabOK G.P G.E) (k : Nat) (GG : Good G.P f args s.h r h') (h : vm G k (.ops a l) K ⟨setD s.t d r, h'⟩) : Cl G f args d a l K s := ⟨r, h', GG, vm_sem T _ _ _ _ h⟩
theorem Lp.of {c : Code} (T : TabOK G.P G.E) (k : Nat) (I : Nat → St → Prop) (m : Nat) (h0 : I m s) (round : ∀ m s, I m s → vm G k (.code c) (.lp (fun s' => ∃ j, j < m ∧ I j s') :: K) s) : Lp G c K s :=
  Run.loop I m h0 fun m s1 hI => vm_sem T _ _ _ _ (round m s1 hI)
theorem Lp.gc {c : Code} (T : TabOK G.P G.E) (k : Nat) (p q : Nat) (hq : G.n ≤ q) (I : Nat → St → Prop) (m : Nat) (h0 : I m (Ev.gc p q s)) (round : ∀ m s, I m s → vm G k (.code c) (.lp (fun s' => ∃ j, j < m ∧ I j (Ev.gc p q s')) :: K) s) : Lp G c K s :=
  Run.loopGc p q hq I m h0 fun m s1 hI => vm_sem T _ _ _ _ (round m s1 hI)
theorem vm_run {P : Program} {E : Env} (T : TabOK P E) {n : Nat} {c : Code} {Q : Exit → St → Prop} (k : Nat) (h : vm ⟨P, E, n, Q⟩ k (.code c) [] s) : Run P n c Q s := vm_sem (G := ⟨P, E, n, Q⟩) T _ _ _ _ h
theorem vm_freeze {m : Md} (id : Nat) (T : TabOK G.P G.E) (c : Code) (h : vm G k (.code c) K (freeze id s)) : Sem G (.code c) K s := Run.freeze id (vm_sem T _ _ _ _ h)
end

theorem Good.of_run2 {P : Program} {E : Env} (T : TabOK P E) {f : FuncId} {fn : Func} {c : Code} {args : List AV} {h h' : List ABlk} {r : AV} (Fin : AV → List ABlk → Prop) (hf : P.funcs[f]? = some fn) (hb : fn.body = some c) (hn : (fn.name == "runtime.NumGoroutine") = false)
    (fin : ∀ (X : Ent) (a : Act) (w : World) (v : AV) (k : List ABlk), X.h = h → Fin v k → Sim X ⟨[v], k⟩ a w → Sim X ⟨[r], h'⟩ a w)
    (hrun : Run P h.length c (fun e s => (e = .normal ∨ e = .ret) ∧ ∃ v, resA E fn.results.toList s = some v ∧ Fin v s.h) ⟨args ++ List.replicate (fn.ntmps - args.length) .und, h⟩) : Good P f args h r h' := by
  intro w N ρ vs H hsc hl hrep
  refine .inl ⟨by have hn' : ¬ fn.name = "runtime.NumGoroutine" := by simpa using hn
                  simp [callFunc, go_sem, hf, hn', hb], ?_⟩
  refine calls_of_wp hf hb ?_
  let X : Ent := ⟨N, h, ρ, w⟩
  have hs : Sim X ⟨args ++ List.replicate (fn.ntmps - args.length) .und, h⟩ { tmps := vs.toArray ++ Array.replicate (fn.ntmps - vs.toArray.size) undef, defers := [] } w := by
    refine ⟨N, ρ, H, ⟨by simp [hl], fun i v hv => ?_, H.glob⟩, ?_, Kept.refl _ _ _ _, rfl⟩
    · simp only at hv ⊢
      by_cases hlt : i < args.length
      · rw [List.getElem?_append_left hlt, List.getElem?_eq_getElem hlt] at hv
        cases hv
        exact ⟨vs[i], by rw [Array.getElem?_append_left (by simp; omega)]; simp [show i < vs.length by omega], hrep i hlt (by omega)⟩
      · rw [List.getElem?_append_right (by omega)] at hv
        have h1 := List.getElem?_eq_some_iff.1 hv
        obtain ⟨h2, h3⟩ := h1
        simp only [List.getElem_replicate] at h3
        subst h3
        simp only [List.length_replicate] at h2
        refine ⟨undef, ?_, .und⟩
        rw [Array.getElem?_append_right (by simp; omega)]
        simp only [List.size_toArray, Array.getElem?_replicate]
        rw [if_pos (by omega)]
    · refine scAll_iff.2 fun x hx => ?_
      rcases List.mem_append.1 hx with h1 | h1
      · exact scAll_iff.1 hsc x h1
      · rw [(List.mem_replicate.1 h1).2]; rfl
  refine wp_mono (hrun X _ _ (Nat.le_refl _) hs) ?_
  rintro e a' w' ⟨s', ⟨N', ρ', S⟩, he, v, hr, hF⟩
  obtain ⟨x, hx, hrx, hsx⟩ := resA_sound T S hr
  have ho : OpOut N h ρ w r h' x w' := OpOut.sim.2 (fin ⟨N, h, ρ, w⟩ ⟨#[x], []⟩ w' v s'.h rfl hF (OpOut.sim.1 ⟨⟨N', ρ', S.heap, hrx, S.kept, hsx⟩⟩))
  have out : a'.defers = [] ∧ ∃ v, (results fn a'.tmps).run P w' = .ok v w' ∧ ∃ v_1, Ending.returned v = .returned v_1 ∧ OpOut N h ρ w r h' v_1 w' := ⟨S.defers, x, hx, x, rfl, ho⟩
  rcases he with rfl | rfl
  · exact out
  · exact out

theorem stays_gc {m : Nat} {r : AV} {h1 : List ABlk} (hs : stays m r h1 = true) : gc 1 m ⟨[r], h1⟩ = ⟨[r], h1.take m⟩ := by
  simp only [stays, Bool.and_eq_true] at hs
  simp only [gc, List.take_succ_cons, List.take_zero, List.map_cons, List.map_nil, List.length_singleton, Nat.sub_self, List.replicate_zero, List.append_nil]
  rw [scrub_id hs.1]
  congr 1
  have : ∀ l : List ABlk, (∀ x, x ∈ l → inB (born (h1.take m)) x = true) → l.map (scrubB (born (h1.take m))) = l := fun l => by
    induction l with
    | nil => intro _; rfl
    | cons x l ih => intro hl; simp only [List.map_cons]; rw [scrubB_id (hl x (by simp)), ih fun y hy => hl y (by simp [hy])]
  exact this _ (List.all_eq_true.1 hs.2)

/-- A function's end: what is its own is frozen, and let go. -/
def endS (E : Env) (rs : List ResultVar) (m : Nat) (r : AV) (h' : List ABlk) (e : Exit) (s : St) : Prop :=
  (e = .normal ∨ e = .ret) ∧ match freezeFrom m (s.h.length - m) s with
    | s1 => resA E rs s1 = some r ∧ stays m r s1.h = true ∧ s1.h.take m = h'

theorem Good.of_vm {P : Program} {E : Env} (T : TabOK P E) (k : Nat) {f : FuncId} {fn : Func} {c : Code} {args : List AV} {h h' : List ABlk} {r : AV} (hf : P.funcs[f]? = some fn) (hb : fn.body = some c) (hn : (fn.name == "runtime.NumGoroutine") = false)
    (hv : vm ⟨P, E, h.length, endS E fn.results.toList h.length r h'⟩ k (.code c) [] ⟨args ++ List.replicate (fn.ntmps - args.length) .und, h⟩) : Good P f args h r h' := by
  refine Good.of_run2 T (fun v k => stays h.length v k = true ∧ v = r ∧ k.take h.length = h') hf hb hn ?_ ((vm_run T k hv).turn fun e s1 X a w hX hq hs => ?_)
  · rintro X a w v k hX ⟨h1, rfl, rfl⟩ hs
    rw [← stays_gc h1]
    exact hs.gc 1 h.length (by rw [hX]; exact Nat.le_refl _)
  · obtain ⟨he, hv, hst, h2⟩ := hq
    exact ⟨_, hs.freezeFrom _ _, he, r, hv, hst, rfl, h2⟩

def slotOf : List Oper → Nat → Option Tmp
  | [], _ => none
  | o :: _, 0 => o.dst
  | _ :: l, j + 1 => slotOf l j
def wantB (w : Bool) : Option AV → Option Bool
  | some (.c (.bool b)) => some (b == w)
  | some .und => some false
  | _ => none
def wantV (w : Bool) (t : List AV) : Option Tmp → Option Bool
  | none => none
  | some d => wantB w t[d]?
theorem slotOf_eq : ∀ (l : List Oper) (j : Nat), slotOf l j = (l[j]?).bind (·.dst)
  | [], j => by simp [slotOf]
  | o :: l, 0 => by simp [slotOf]
  | o :: l, j + 1 => by simp only [slotOf, slotOf_eq l j, List.getElem?_cons_succ]
theorem wantedA_none {a : Array Oper} {t : List AV} {d : Option Tmp} {op : Op} {ty : TypeId} {pos : String} {af : Array Edge} : wantedA a t ⟨d, op, ty, pos, af, none⟩ = some true := rfl
theorem wantedA_some {l : List Oper} {t : List AV} {d : Option Tmp} {op : Op} {ty : TypeId} {pos : String} {af : Array Edge} {j : Nat} {w : Bool} : wantedA l.toArray t ⟨d, op, ty, pos, af, some (j, w)⟩ = wantV w t (slotOf l j) := by
  unfold wantedA
  simp only [List.getElem?_toArray, slotOf_eq]
  cases (l[j]?).bind (·.dst) with
  | none => rfl
  | some d => simp only [Option.bind_some, wantV, wantB]
theorem beq_true' (b : Bool) : (b == true) = b := by cases b <;> rfl
theorem beq_false' (b : Bool) : (b == false) = !b := by cases b <;> rfl
attribute [go_sem] List.replicate List.length_cons List.length_nil List.cons_append List.nil_append vm_skip vm_label vm_exit vm_goto vm_ret vm_seq vm_block vm_cond vm_loop vm_region vm_drawn vm_end vm_then vm_then_ret vm_then_exit vm_blk vm_blk_ret vm_blk_exit vm_lp vm_lp_ret vm_lp_exit vm_br_true vm_br_false vm_br_decide vm_br_beq vm_br_bne vm_br_not vm_ops_nil vm_ops vm_opw_true vm_opw_false vm_opg_true vm_opg_false vm_opc vm_opf_nil vm_opf_cons vm_opx vm_opv vm_opv_none vm_opv_if vm_opv_ifn vm_opv_get
 wantedA_none wantedA_some slotOf wantV wantB beq_true' beq_false' Bool.not_true Bool.not_false beq_self_eq_true decide_true decide_false goCall fzIds idsIn slIds callOf fnOf argsA optA evOp opd litA litC Option.map_some Option.map_none Option.bind_some Option.bind_none setD app hput List.set_cons_zero List.set_cons_succ List.getElem?_cons_zero List.getElem?_cons_succ List.getElem?_nil
 mkPick setL fillA placesA parts isAggA oneOf asVar aLoad closeAllC closeC closeC.closeAll aStore addA aField aIndexAddr aPart aIndex boundA aSlice aLen aMakeSlice elemsOf aBuildSlice rowOf moreOf aAppend intB strB shiftB isNil eqC nilOf nilEq plainEq fieldsEq eqRes aEq aBin aUn aConv okCell cellsOf
 freezeFrom freeze frzV frzV.frzAll frzB freezeIds resOne resAll resTop resA stays endS inB AV.sc AV.sc.scAll born
 List.map_cons List.map_nil List.take_succ_cons List.take_zero List.take_nil List.drop_succ_cons List.drop_zero List.drop_nil List.all_cons List.all_nil Bool.and_true Bool.true_and Bool.and_false Bool.false_and List.flatMap_nil List.flatMap_cons
end Go.Ev
