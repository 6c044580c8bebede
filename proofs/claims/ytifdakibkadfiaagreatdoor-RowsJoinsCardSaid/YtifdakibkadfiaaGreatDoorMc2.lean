import Derived.Test.YtifdakibkadfiaaGreatDoorMc1
set_option linter.all false
set_option maxRecDepth 100000
set_option maxHeartbeats 8000000
section
open Go Go.Proofs Go.RowKit Go.ChangeShapes Go.WideShapes
namespace Go.Ev
section
variable {P:Program} {W:World} {t:TypeId}
theorem arg_str {r:Reach} {b0:Nat} (hu:P.underlying t=some .string) {v:Value} (hval:Value.okWide P W r b0 t v) {us:List CV} (hr:x9 W us v.cells.toList):∃ u,us=[u] ∧ kX W (fun b=>b < W.heap.size) u v:=by
 obtain ⟨s,rfl⟩:=okWide_string hu hval
 have hl:us.length=1:=hr.1
 obtain ⟨u,rfl⟩:∃ u,us=[u]:=by
  match us,hl with
  | [u],_=>exact ⟨u,rfl⟩
 exact ⟨u,rfl,hr.2 0 (by simp) (by simp [Value.cells])⟩
theorem znq {r:Reach} {b0:Nat} (hu:P.underlying t=some .bool) {v:Value} (hval:Value.okWide P W r b0 t v) {us:List CV} (hr:x9 W us v.cells.toList):∃ u,us=[u] ∧ kX W (fun b=>b < W.heap.size) u v:=by
 obtain ⟨s,rfl⟩:=okWide_bool hu hval
 have hl:us.length=1:=hr.1
 obtain ⟨u,rfl⟩:∃ u,us=[u]:=by
  match us,hl with
  | [u],_=>exact ⟨u,rfl⟩
 exact ⟨u,rfl,hr.2 0 (by simp) (by simp [Value.cells])⟩
end
theorem zio:Tryz.prog.cellsOf 24=2:=by kernel_rfl
theorem zg5:Tryz.prog.cellsOf 22=1:=by kernel_rfl
theorem Wt.table {us:List CV} (h:Wt Tryz.prog 24 us):∃ (w:Int) (l:List (List Val)),us=[.int .i64 w,qD l] ∧ I64 w ∧ ∀ r,r ∈ l → ∀ v,v ∈ r → v.Wf:=by
 obtain ⟨hl,hf⟩:=Wt.zke Tryz.underlying24 h
 rw [zio] at hl
 obtain ⟨a,b,rfl⟩:∃ a b,us=[a,b]:=by
  match us,hl with
  | [a,b],_=>exact ⟨a,b,rfl⟩
 have h0:=hf _ (List.mem_cons_self ..)
 have h1:=hf _ (List.mem_cons_of_mem _ (List.mem_cons_self ..))
 simp only [zbf,zg5,List.drop_zero,List.drop_succ_cons,List.take_succ_cons,List.take_zero] at h0 h1
 obtain ⟨w,e0,hw⟩:=Wt.ofInt Tryz.underlying3 h0
 obtain ⟨l,e1,hx⟩:=Wt.rows h1
 cases e0;cases e1
 exact ⟨w,l,rfl,Kn hw,hx⟩
theorem Wt.zni {us:List CV} (h:Wt Tryz.prog 27 us):∃ l:List Expr,us=[.lst 7 false (l.map Expr.cs)] ∧ ∀ e,e ∈ l → Expr.All (fun x=>x.v.Wf) e:=(Wt.exprs h).2 rfl
end Go.Ev
end
