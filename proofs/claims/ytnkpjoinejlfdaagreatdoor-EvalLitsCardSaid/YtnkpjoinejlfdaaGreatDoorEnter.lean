/-  From a contract on plain values to a call in a world. -/
import Derived.Test.YtnkpjoinejlfdaaGreatDoorBase
set_option linter.all false
open Go Go.Proofs Go.RowKit
namespace Go.Ev
theorem Good.enter {P : Program} {f : FuncId} {fn : Func} {c : Code} {args : List AV} {r : AV} (G : Good P f args [] r []) (hf : P.funcs[f]? = some fn) (hb : fn.body = some c) (hn : (fn.name == "runtime.NumGoroutine") = false)
    {w : World} {vs : List Value} (N : Nat → Prop) (hN : ∀ b, N b → b < w.heap.size) (hg : GlobOK w N) (hl : args.length = vs.length) (hcl : AV.cl.clAll args = true)
    (hrep : ∀ (i : Nat) (h1 : i < args.length) (h2 : i < vs.length), RepA w N (fun _ => default) args[i] vs[i]) :
    Calls P f vs.toArray w fun e w' => ∃ v, e = .returned v ∧ (∃ N' ρ, RepA w' N' ρ r v) ∧ Below w.heap.size w w' := by
  have H0 : HeapOK N [] (fun _ => default) w := ⟨hN, fun i j hi => by obtain ⟨⟨k, hk, _⟩, _⟩ := hi; simp at hk, fun i hi => by obtain ⟨⟨k, hk, _⟩, _⟩ := hi; simp at hk, fun i k hk => by simp at hk, fun i cs hk => by simp at hk, hg⟩
  have hsc : AV.sc.scAll (born []) args = true := AV.cl_sc.all args hcl _
  have hn' : ¬ fn.name = "runtime.NumGoroutine" := by simpa using hn
  refine (Good.calls G H0 hsc hl hrep (by simp [callFunc, go_sem, hf, hn', hb])).mono ?_
  rintro e w' ⟨v, rfl, ⟨N', ρ', H', hr, K, _⟩⟩
  refine ⟨v, rfl, ⟨N', ρ', hr⟩, K.os, K.tape, K.output, K.size, fun b hb => K.rest b hb fun i hi => ?_⟩
  obtain ⟨⟨k, hk, _⟩, _⟩ := hi
  simp at hk
end Go.Ev
