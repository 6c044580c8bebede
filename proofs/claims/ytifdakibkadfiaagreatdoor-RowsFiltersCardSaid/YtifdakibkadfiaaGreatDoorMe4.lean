import Derived.Test.YtifdakibkadfiaaGreatDoorMe3
set_option linter.all false
set_option maxRecDepth 100000
set_option maxHeartbeats 8000000
section
open Go Go.Proofs
namespace Go.Ev
theorem two_good (F:CV):Good Tryz.prog 131 [.c F] [] (.tup [.agg [cI 2,cI 2,.c (.fn 132 [.pt [F]])],cB true]) []:=by
 refine Good.of_vmQ TT 4000 Tryz.func131 rfl rfl ?_
 unfold Tryz.f131
 simp only [go_sem,go_sem_proc]
theorem two1_good (g:FuncId) (caps:List CV) (vs:List Val) (x y:Val) (hx:vs[0]?=some x) (hy:vs[1]?=some y) {res:Val} {f:Int} (G:Good Tryz.prog g (x.av :: y.av :: caps.map opn) [] (vals res f) []):Good Tryz.prog 132 [.c (rowC vs),.rd [.fn g caps]] [] (vals res f) []:=by
 have h0:1 < vs.length:=(List.getElem?_eq_some_iff.1 hy).1
 refine Good.of_vmQ TT 4000 Tryz.func132 rfl rfl ?_
 unfold Tryz.f132
 simp only [go_sem,go_sem_proc]
 refine Dr.of TT (by kernel_rfl) [(g,x.av :: y.av :: caps.map opn,vals res f)] ⟨⟨G,rfl⟩,trivial⟩ ?_
 simp only [go_sem,hx,hy,go_sem_proc]
 refine ⟨by omega,by omega,DEnd.of TT 4000 (memOK_of2 (by kernel_rfl)) ?_⟩
 simp only [go_sem,go_sem_proc]
 exact Le.refl _
theorem works4_good (a b:Val) (ha:I64 a.i) (hb:I64 b.i):Good Tryz.prog 137 [a.av,b.av] [] (vals (lgS 0 [a,b]).1 (lgS 0 [a,b]).2) []:=by
 refine Good.of_vmQ TT 4000 Tryz.func137 rfl rfl ?_
 unfold Tryz.f137
 simp only [go_sem,go_sem_proc]
 have hab:∀ x,x ∈ [a,b] → I64 x.i:=fun x hx=>by
  simp only [List.mem_cons,List.not_mem_nil,or_false] at hx
  rcases hx with rfl | rfl
  ·exact ha
  ·exact hb
 (refine Cl.pure TT 4000 (logic_And [a,b] hab) rfl rfl ?_;simp only [go_sem,go_sem_proc])
 exact Le.refl _
theorem works5_good (a b:Val) (ha:I64 a.i) (hb:I64 b.i):Good Tryz.prog 139 [a.av,b.av] [] (vals (lgS 1 [a,b]).1 (lgS 1 [a,b]).2) []:=by
 refine Good.of_vmQ TT 4000 Tryz.func139 rfl rfl ?_
 unfold Tryz.f139
 simp only [go_sem,go_sem_proc]
 have hab:∀ x,x ∈ [a,b] → I64 x.i:=fun x hx=>by
  simp only [List.mem_cons,List.not_mem_nil,or_false] at hx
  rcases hx with rfl | rfl
  ·exact ha
  ·exact hb
 (refine Cl.pure TT 4000 (logic_Or [a,b] hab) rfl rfl ?_;simp only [go_sem,go_sem_proc])
 exact Le.refl _
theorem works7_good (op:ByteArray) (a b:Val) (ha:I64 a.i) (hb:I64 b.i):Good Tryz.prog 146 [a.av,b.av,.rd [.str op]] [] (vals (relS op a b).1 (relS op a b).2) []:=by
 refine Good.of_vmQ TT 4000 Tryz.func146 rfl rfl ?_
 unfold Tryz.f146
 simp only [go_sem,go_sem_proc]
 (refine Cl.pure TT 4000 (logic_Rel op a b ha hb) rfl rfl ?_;simp only [go_sem,go_sem_proc])
 exact Le.refl _
theorem works8_good (op:ByteArray) (a b:Val) {res:Val} {f:Int} (G:Good Tryz.prog 78 [cS op,a.av,b.av] [] (vals res f) []):Good Tryz.prog 148 [a.av,b.av,.rd [.str op]] [] (vals res f) []:=by
 refine Good.of_vmQ TT 4000 Tryz.func148 rfl rfl ?_
 unfold Tryz.f148
 simp only [go_sem,go_sem_proc]
 (refine Cl.pure TT 4000 (G) rfl rfl ?_;simp only [go_sem,go_sem_proc])
 exact Le.refl _
theorem works6_good (v:Val) (l:List Val) (hv:I64 v.i) (hi:∀ x,x ∈ l → I64 x.i) (hb:l.length ≤ 1000000):Good Tryz.prog 144 [.c (rowC (v :: l))] [] (vals (inS v l).1 (inS v l).2) []:=by
 refine Good.of_vmQ TT 4000 Tryz.func144 rfl rfl ?_
 unfold Tryz.f144
 simp only [go_sem,go_sem_proc]
 refine Dr.of TT (by kernel_rfl) [(145,[v.av,.c (rowC l)],vals (inS v l).1 (inS v l).2)] ⟨⟨logic_In v l hv hi hb,rfl⟩,trivial⟩ ?_
 have hk:List.take l.length (l.map Val.cs)=l.map Val.cs:=List.take_of_length_le (by simp)
 simp only [go_sem,hk,go_sem_proc]
 refine ⟨by omega,by omega,DEnd.of TT 4000 (memOK_of2 (by kernel_rfl)) ?_⟩
 simp only [go_sem,go_sem_proc]
 exact Le.refl _
def betweenS (a b c:Val):Val × Int:=if (relS ⟨#[62,61]⟩ a b).2=0 then (if (relS ⟨#[60,61]⟩ a c).2=0 then lgS 0 [(relS ⟨#[62,61]⟩ a b).1,(relS ⟨#[60,61]⟩ a c).1] else relS ⟨#[60,61]⟩ a c) else relS ⟨#[62,61]⟩ a b
theorem between_good (a b c:Val) (ha:I64 a.i) (hb:I64 b.i) (hc:I64 c.i):Good Tryz.prog 143 [.c (rowC [a,b,c])] [] (vals (betweenS a b c).1 (betweenS a b c).2) []:=by
 refine Good.of_vmQ TT 4000 Tryz.func143 rfl rfl ?_
 unfold Tryz.f143
 simp only [go_sem,go_sem_proc]
 refine Dr.of TT (by kernel_rfl) [(147,[cS ⟨#[62,61]⟩,a.av,b.av],vals (relS ⟨#[62,61]⟩ a b).1 (relS ⟨#[62,61]⟩ a b).2)] ⟨⟨logic_Rel _ a b ha hb,rfl⟩,trivial⟩ ?_
 simp only [go_sem,go_sem_proc]
 refine ⟨by omega,by omega,?_⟩
 refine DEnd.of TT 4000 (memOK_of2 (by kernel_rfl)) ?_
 unfold betweenS
 by_cases c1:(relS ⟨#[62,61]⟩ a b).2=0
 ·have c1':((relS ⟨#[62,61]⟩ a b).2 != 0)=false:=by simp [c1]
  simp only [go_sem,c1',c1,go_sem_proc]
  refine Dr.of TT (by kernel_rfl) [(147,[cS ⟨#[60,61]⟩,a.av,c.av],vals (relS ⟨#[60,61]⟩ a c).1 (relS ⟨#[60,61]⟩ a c).2)] ⟨⟨logic_Rel _ a c ha hc,rfl⟩,trivial⟩ ?_
  simp only [go_sem,go_sem_proc]
  refine ⟨by omega,by omega,?_⟩
  refine DEnd.of TT 4000 (memOK_of2 (by kernel_rfl)) ?_
  by_cases c2:(relS ⟨#[60,61]⟩ a c).2=0
  ·have c2':((relS ⟨#[60,61]⟩ a c).2 != 0)=false:=by simp [c2]
   simp only [go_sem,c2',c2,go_sem_proc]
   refine Cl.pure TT 4000 (logic_And [(relS ⟨#[62,61]⟩ a b).1,(relS ⟨#[60,61]⟩ a c).1] (fun x hx=>by
    simp only [List.mem_cons,List.not_mem_nil,or_false] at hx
    rcases hx with rfl | rfl <;> exact relS_i64 _ _ _)) rfl rfl ?_
   simp only [go_sem,go_sem_proc]
   exact Le.refl _
  ·have c2':((relS ⟨#[60,61]⟩ a c).2 != 0)=true:=by simp [c2]
   simp only [go_sem,c2',c2,go_sem_proc]
   exact Le.refl _
 ·have c1':((relS ⟨#[62,61]⟩ a b).2 != 0)=true:=by simp [c1]
  simp only [go_sem,c1',c1,go_sem_proc]
  exact Le.refl _
theorem works_neg:Good Tryz.prog 87 [cS ⟨#[110,101,103]⟩] [] (.tup [.agg [cI 1,cI 1,.c (.fn 130 [.pt [.fn 133 []]])],cB true]) []:=by
 refine Good.of_vmQ TT 4000 Tryz.func87 rfl rfl ?_
 unfold Tryz.f87
 simp only [go_sem,go_sem_proc]
 refine Cl.fzP TT 4000 0 1 ?_
 simp only [go_sem,go_sem_proc]
 refine Cl.pure TT 4000 (one_good (.fn 133 [])) rfl rfl ?_
 simp only [go_sem,go_sem_proc]
theorem works_not:Good Tryz.prog 87 [cS ⟨#[110,111,116]⟩] [] (.tup [.agg [cI 1,cI 1,.c (.fn 130 [.pt [.fn 134 []]])],cB true]) []:=by
 refine Good.of_vmQ TT 4000 Tryz.func87 rfl rfl ?_
 unfold Tryz.f87
 simp only [go_sem,go_sem_proc]
 refine Cl.fzP TT 4000 0 1 ?_
 simp only [go_sem,go_sem_proc]
 refine Cl.pure TT 4000 (one_good (.fn 134 [])) rfl rfl ?_
 simp only [go_sem,go_sem_proc]
theorem works_notnull:Good Tryz.prog 87 [cS ⟨#[110,111,116,110,117,108,108]⟩] [] (.tup [.agg [cI 1,cI 1,.c (.fn 130 [.pt [.fn 135 [.pt [.str ⟨#[110,111,116,110,117,108,108]⟩]]]])],cB true]) []:=by
 refine Good.of_vmQ TT 4000 Tryz.func87 rfl rfl ?_
 unfold Tryz.f87
 simp only [go_sem,go_sem_proc]
 refine Cl.fzP TT 4000 0 1 ?_
 simp only [go_sem,go_sem_proc]
 refine Cl.pure TT 4000 (one_good (.fn 135 [.pt [.str ⟨#[110,111,116,110,117,108,108]⟩]])) rfl rfl ?_
 simp only [go_sem,go_sem_proc]
theorem works_and:Good Tryz.prog 87 [cS ⟨#[97,110,100]⟩] [] (.tup [.agg [cI 2,cI 2,.c (.fn 132 [.pt [.fn 137 []]])],cB true]) []:=by
 refine Good.of_vmQ TT 4000 Tryz.func87 rfl rfl ?_
 unfold Tryz.f87
 simp only [go_sem,go_sem_proc]
 refine Cl.fzP TT 4000 0 1 ?_
 simp only [go_sem,go_sem_proc]
 refine Cl.pure TT 4000 (two_good (.fn 137 [])) rfl rfl ?_
 simp only [go_sem,go_sem_proc]
theorem works_or:Good Tryz.prog 87 [cS ⟨#[111,114]⟩] [] (.tup [.agg [cI 2,cI 2,.c (.fn 132 [.pt [.fn 139 []]])],cB true]) []:=by
 refine Good.of_vmQ TT 4000 Tryz.func87 rfl rfl ?_
 unfold Tryz.f87
 simp only [go_sem,go_sem_proc]
 refine Cl.fzP TT 4000 0 1 ?_
 simp only [go_sem,go_sem_proc]
 refine Cl.pure TT 4000 (two_good (.fn 139 [])) rfl rfl ?_
 simp only [go_sem,go_sem_proc]
theorem works_cat:Good Tryz.prog 87 [cS ⟨#[124,124]⟩] [] (.tup [.agg [cI 2,cI 2,.c (.fn 132 [.pt [.fn 141 []]])],cB true]) []:=by
 refine Good.of_vmQ TT 4000 Tryz.func87 rfl rfl ?_
 unfold Tryz.f87
 simp only [go_sem,go_sem_proc]
 refine Cl.fzP TT 4000 0 1 ?_
 simp only [go_sem,go_sem_proc]
 refine Cl.pure TT 4000 (two_good (.fn 141 [])) rfl rfl ?_
 simp only [go_sem,go_sem_proc]
theorem works_like:Good Tryz.prog 87 [cS ⟨#[108,105,107,101]⟩] [] (.tup [.agg [cI 2,cI 2,.c (.fn 132 [.pt [.fn 142 []]])],cB true]) []:=by
 refine Good.of_vmQ TT 4000 Tryz.func87 rfl rfl ?_
 unfold Tryz.f87
 simp only [go_sem,go_sem_proc]
 refine Cl.fzP TT 4000 0 1 ?_
 simp only [go_sem,go_sem_proc]
 refine Cl.pure TT 4000 (two_good (.fn 142 [])) rfl rfl ?_
 simp only [go_sem,go_sem_proc]
theorem works_eq:Good Tryz.prog 87 [cS ⟨#[61]⟩] [] (.tup [.agg [cI 2,cI 2,.c (.fn 132 [.pt [.fn 146 [.pt [.str ⟨#[61]⟩]]]])],cB true]) []:=by
 refine Good.of_vmQ TT 4000 Tryz.func87 rfl rfl ?_
 unfold Tryz.f87
 simp only [go_sem,go_sem_proc]
 refine Cl.fzP TT 4000 0 1 ?_
 simp only [go_sem,go_sem_proc]
 refine Cl.pure TT 4000 (two_good (.fn 146 [.pt [.str ⟨#[61]⟩]])) rfl rfl ?_
 simp only [go_sem,go_sem_proc]
theorem works_ne:Good Tryz.prog 87 [cS ⟨#[60,62]⟩] [] (.tup [.agg [cI 2,cI 2,.c (.fn 132 [.pt [.fn 146 [.pt [.str ⟨#[60,62]⟩]]]])],cB true]) []:=by
 refine Good.of_vmQ TT 4000 Tryz.func87 rfl rfl ?_
 unfold Tryz.f87
 simp only [go_sem,go_sem_proc]
 refine Cl.fzP TT 4000 0 1 ?_
 simp only [go_sem,go_sem_proc]
 refine Cl.pure TT 4000 (two_good (.fn 146 [.pt [.str ⟨#[60,62]⟩]])) rfl rfl ?_
 simp only [go_sem,go_sem_proc]
theorem works_lt:Good Tryz.prog 87 [cS ⟨#[60]⟩] [] (.tup [.agg [cI 2,cI 2,.c (.fn 132 [.pt [.fn 146 [.pt [.str ⟨#[60]⟩]]]])],cB true]) []:=by
 refine Good.of_vmQ TT 4000 Tryz.func87 rfl rfl ?_
 unfold Tryz.f87
 simp only [go_sem,go_sem_proc]
 refine Cl.fzP TT 4000 0 1 ?_
 simp only [go_sem,go_sem_proc]
 refine Cl.pure TT 4000 (two_good (.fn 146 [.pt [.str ⟨#[60]⟩]])) rfl rfl ?_
 simp only [go_sem,go_sem_proc]
theorem works_le:Good Tryz.prog 87 [cS ⟨#[60,61]⟩] [] (.tup [.agg [cI 2,cI 2,.c (.fn 132 [.pt [.fn 146 [.pt [.str ⟨#[60,61]⟩]]]])],cB true]) []:=by
 refine Good.of_vmQ TT 4000 Tryz.func87 rfl rfl ?_
 unfold Tryz.f87
 simp only [go_sem,go_sem_proc]
 refine Cl.fzP TT 4000 0 1 ?_
 simp only [go_sem,go_sem_proc]
 refine Cl.pure TT 4000 (two_good (.fn 146 [.pt [.str ⟨#[60,61]⟩]])) rfl rfl ?_
 simp only [go_sem,go_sem_proc]
theorem works_gt:Good Tryz.prog 87 [cS ⟨#[62]⟩] [] (.tup [.agg [cI 2,cI 2,.c (.fn 132 [.pt [.fn 146 [.pt [.str ⟨#[62]⟩]]]])],cB true]) []:=by
 refine Good.of_vmQ TT 4000 Tryz.func87 rfl rfl ?_
 unfold Tryz.f87
 simp only [go_sem,go_sem_proc]
 refine Cl.fzP TT 4000 0 1 ?_
 simp only [go_sem,go_sem_proc]
 refine Cl.pure TT 4000 (two_good (.fn 146 [.pt [.str ⟨#[62]⟩]])) rfl rfl ?_
 simp only [go_sem,go_sem_proc]
theorem works_ge:Good Tryz.prog 87 [cS ⟨#[62,61]⟩] [] (.tup [.agg [cI 2,cI 2,.c (.fn 132 [.pt [.fn 146 [.pt [.str ⟨#[62,61]⟩]]]])],cB true]) []:=by
 refine Good.of_vmQ TT 4000 Tryz.func87 rfl rfl ?_
 unfold Tryz.f87
 simp only [go_sem,go_sem_proc]
 refine Cl.fzP TT 4000 0 1 ?_
 simp only [go_sem,go_sem_proc]
 refine Cl.pure TT 4000 (two_good (.fn 146 [.pt [.str ⟨#[62,61]⟩]])) rfl rfl ?_
 simp only [go_sem,go_sem_proc]
theorem works_add:Good Tryz.prog 87 [cS ⟨#[43]⟩] [] (.tup [.agg [cI 2,cI 2,.c (.fn 132 [.pt [.fn 148 [.pt [.str ⟨#[43]⟩]]]])],cB true]) []:=by
 refine Good.of_vmQ TT 4000 Tryz.func87 rfl rfl ?_
 unfold Tryz.f87
 simp only [go_sem,go_sem_proc]
 refine Cl.fzP TT 4000 0 1 ?_
 simp only [go_sem,go_sem_proc]
 refine Cl.pure TT 4000 (two_good (.fn 148 [.pt [.str ⟨#[43]⟩]])) rfl rfl ?_
 simp only [go_sem,go_sem_proc]
theorem works_sub:Good Tryz.prog 87 [cS ⟨#[45]⟩] [] (.tup [.agg [cI 2,cI 2,.c (.fn 132 [.pt [.fn 148 [.pt [.str ⟨#[45]⟩]]]])],cB true]) []:=by
 refine Good.of_vmQ TT 4000 Tryz.func87 rfl rfl ?_
 unfold Tryz.f87
 simp only [go_sem,go_sem_proc]
 refine Cl.fzP TT 4000 0 1 ?_
 simp only [go_sem,go_sem_proc]
 refine Cl.pure TT 4000 (two_good (.fn 148 [.pt [.str ⟨#[45]⟩]])) rfl rfl ?_
 simp only [go_sem,go_sem_proc]
theorem works_mul:Good Tryz.prog 87 [cS ⟨#[42]⟩] [] (.tup [.agg [cI 2,cI 2,.c (.fn 132 [.pt [.fn 148 [.pt [.str ⟨#[42]⟩]]]])],cB true]) []:=by
 refine Good.of_vmQ TT 4000 Tryz.func87 rfl rfl ?_
 unfold Tryz.f87
 simp only [go_sem,go_sem_proc]
 refine Cl.fzP TT 4000 0 1 ?_
 simp only [go_sem,go_sem_proc]
 refine Cl.pure TT 4000 (two_good (.fn 148 [.pt [.str ⟨#[42]⟩]])) rfl rfl ?_
 simp only [go_sem,go_sem_proc]
theorem works_div:Good Tryz.prog 87 [cS ⟨#[47]⟩] [] (.tup [.agg [cI 2,cI 2,.c (.fn 132 [.pt [.fn 148 [.pt [.str ⟨#[47]⟩]]]])],cB true]) []:=by
 refine Good.of_vmQ TT 4000 Tryz.func87 rfl rfl ?_
 unfold Tryz.f87
 simp only [go_sem,go_sem_proc]
 refine Cl.fzP TT 4000 0 1 ?_
 simp only [go_sem,go_sem_proc]
 refine Cl.pure TT 4000 (two_good (.fn 148 [.pt [.str ⟨#[47]⟩]])) rfl rfl ?_
 simp only [go_sem,go_sem_proc]
theorem works_rem:Good Tryz.prog 87 [cS ⟨#[37]⟩] [] (.tup [.agg [cI 2,cI 2,.c (.fn 132 [.pt [.fn 148 [.pt [.str ⟨#[37]⟩]]]])],cB true]) []:=by
 refine Good.of_vmQ TT 4000 Tryz.func87 rfl rfl ?_
 unfold Tryz.f87
 simp only [go_sem,go_sem_proc]
 refine Cl.fzP TT 4000 0 1 ?_
 simp only [go_sem,go_sem_proc]
 refine Cl.pure TT 4000 (two_good (.fn 148 [.pt [.str ⟨#[37]⟩]])) rfl rfl ?_
 simp only [go_sem,go_sem_proc]
theorem works_between:Good Tryz.prog 87 [cS ⟨#[98,101,116,119,101,101,110]⟩] [] (.tup [.agg [cI 3,cI 3,.c (.fn 143 [])],cB true]) []:=by
 refine Good.of_vmQ TT 4000 Tryz.func87 rfl rfl ?_
 unfold Tryz.f87
 simp only [go_sem,go_sem_proc]
theorem works_in:Good Tryz.prog 87 [cS ⟨#[105,110]⟩] [] (.tup [.agg [cI 1,cI 9223372036854775807,.c (.fn 144 [])],cB true]) []:=by
 refine Good.of_vmQ TT 4000 Tryz.func87 rfl rfl ?_
 unfold Tryz.f87
 simp only [go_sem,go_sem_proc]
def opNames:List (List UInt8):=[(⟨#[110,101,103]⟩:ByteArray).toList,(⟨#[110,111,116]⟩:ByteArray).toList,(⟨#[105,115,110,117,108,108]⟩:ByteArray).toList,(⟨#[110,111,116,110,117,108,108]⟩:ByteArray).toList,(⟨#[97,110,100]⟩:ByteArray).toList,(⟨#[111,114]⟩:ByteArray).toList,(⟨#[124,124]⟩:ByteArray).toList,(⟨#[108,105,107,101]⟩:ByteArray).toList,(⟨#[98,101,116,119,101,101,110]⟩:ByteArray).toList,(⟨#[105,110]⟩:ByteArray).toList,(⟨#[61]⟩:ByteArray).toList,(⟨#[60,62]⟩:ByteArray).toList,(⟨#[60]⟩:ByteArray).toList,(⟨#[60,61]⟩:ByteArray).toList,(⟨#[62]⟩:ByteArray).toList,(⟨#[62,61]⟩:ByteArray).toList,(⟨#[43]⟩:ByteArray).toList,(⟨#[45]⟩:ByteArray).toList,(⟨#[42]⟩:ByteArray).toList,(⟨#[47]⟩:ByteArray).toList,(⟨#[37]⟩:ByteArray).toList]
theorem works_none (op:ByteArray) (h:∀ x,x ∈ opNames → (op.toList == x)=false):Good Tryz.prog 87 [cS op] [] (.tup [.agg [cI 0,cI 0,.c .nfn],cB false]) []:=by
 have h0:=h _ (by unfold opNames;simp:(⟨#[110,101,103]⟩:ByteArray).toList ∈ opNames)
 have h1:=h _ (by unfold opNames;simp:(⟨#[110,111,116]⟩:ByteArray).toList ∈ opNames)
 have h2:=h _ (by unfold opNames;simp:(⟨#[105,115,110,117,108,108]⟩:ByteArray).toList ∈ opNames)
 have h3:=h _ (by unfold opNames;simp:(⟨#[110,111,116,110,117,108,108]⟩:ByteArray).toList ∈ opNames)
 have h4:=h _ (by unfold opNames;simp:(⟨#[97,110,100]⟩:ByteArray).toList ∈ opNames)
 have h5:=h _ (by unfold opNames;simp:(⟨#[111,114]⟩:ByteArray).toList ∈ opNames)
 have h6:=h _ (by unfold opNames;simp:(⟨#[124,124]⟩:ByteArray).toList ∈ opNames)
 have h7:=h _ (by unfold opNames;simp:(⟨#[108,105,107,101]⟩:ByteArray).toList ∈ opNames)
 have h8:=h _ (by unfold opNames;simp:(⟨#[98,101,116,119,101,101,110]⟩:ByteArray).toList ∈ opNames)
 have h9:=h _ (by unfold opNames;simp:(⟨#[105,110]⟩:ByteArray).toList ∈ opNames)
 have h10:=h _ (by unfold opNames;simp:(⟨#[61]⟩:ByteArray).toList ∈ opNames)
 have h11:=h _ (by unfold opNames;simp:(⟨#[60,62]⟩:ByteArray).toList ∈ opNames)
 have h12:=h _ (by unfold opNames;simp:(⟨#[60]⟩:ByteArray).toList ∈ opNames)
 have h13:=h _ (by unfold opNames;simp:(⟨#[60,61]⟩:ByteArray).toList ∈ opNames)
 have h14:=h _ (by unfold opNames;simp:(⟨#[62]⟩:ByteArray).toList ∈ opNames)
 have h15:=h _ (by unfold opNames;simp:(⟨#[62,61]⟩:ByteArray).toList ∈ opNames)
 have h16:=h _ (by unfold opNames;simp:(⟨#[43]⟩:ByteArray).toList ∈ opNames)
 have h17:=h _ (by unfold opNames;simp:(⟨#[45]⟩:ByteArray).toList ∈ opNames)
 have h18:=h _ (by unfold opNames;simp:(⟨#[42]⟩:ByteArray).toList ∈ opNames)
 have h19:=h _ (by unfold opNames;simp:(⟨#[47]⟩:ByteArray).toList ∈ opNames)
 have h20:=h _ (by unfold opNames;simp:(⟨#[37]⟩:ByteArray).toList ∈ opNames)
 clear h
 refine Good.of_vmQ TT 4000 Tryz.func87 rfl rfl ?_
 unfold Tryz.f87
 simp only [go_sem,h0,h1,h2,h3,h4,h5,h6,h7,h8,h9,h10,h11,h12,h13,h14,h15,h16,h17,h18,h19,h20,Bool.false_eq_true,go_sem_proc]
end Go.Ev
end
section
open Go Go.Proofs
namespace Go.Ev
def idxI (a:ByteArray) (c:Int):Int:=match (List.range a.size).find? fun i=>a[i]! == c.toNat.toUInt8 with
 | some i=>i
 | none=>-1
theorem idxByte_I (a:ByteArray) (c:Int):idxByte a c=cI (idxI a c):=by
 unfold idxByte idxI
 cases (List.range a.size).find? fun i=>a[i]! == c.toNat.toUInt8 <;> rfl
theorem bytealg_IndexByteString (a:ByteArray) (c:Int):Good Tryz.prog 233 [cS a,.c (.int .u8 c)] [] (cI (idxI a c)) []:=by
 rw [← idxByte_I]
 exact Good.ext Tryz.func233 rfl rfl (by rfl) (by rfl) (by unfold idxByte;split <;> rfl) fun w N ρ vs hl hr=>idxByte_run _ _ _ w N ρ vs hl hr
theorem stringslite_IndexByte (a:ByteArray) (c:Int):Good Tryz.prog 214 [cS a,.c (.int .u8 c)] [] (cI (idxI a c)) []:=by
 refine Good.of_vmQ TT 4000 Tryz.func214 rfl rfl ?_
 unfold Tryz.f214
 simp only [go_sem,go_sem_proc]
 (refine Cl.pure TT 4000 (bytealg_IndexByteString a c) rfl rfl ?_;simp only [go_sem,go_sem_proc])
theorem strings_IndexByte (a:ByteArray) (c:Int):Good Tryz.prog 229 [cS a,.c (.int .u8 c)] [] (cI (idxI a c)) []:=by
 refine Good.of_vmQ TT 4000 Tryz.func229 rfl rfl ?_
 unfold Tryz.f229
 simp only [go_sem,go_sem_proc]
 (refine Cl.pure TT 4000 (stringslite_IndexByte a c) rfl rfl ?_;simp only [go_sem,go_sem_proc])
abbrev likeW:ByteArray:=⟨#[37,95,92]⟩
def nextS (p:ByteArray):Int × Int × Bool:=match p[0]? with
 | none=>(0,0,false)
 | some c=>if c.toNat=92 then (match p[1]? with
   | none=>(0,0,false)
   | some d=>if idxI likeW d.toNat < 0 then (0,0,false) else (d.toNat,2,true))
  else (c.toNat,1,!(c.toNat == 37) && !(c.toNat == 95))
theorem ba_at {p:ByteArray} {i:Nat} (h:i < p.size):∃ c,p[i]?=some c:=⟨p[i],getElem?_pos p i h⟩
theorem like_next (p:ByteArray) (h:0 < p.size):Good Tryz.prog 204 [cS p] [] (.tup [.c (.int .u8 (nextS p).1),cI (nextS p).2.1,cB (nextS p).2.2]) []:=by
 obtain ⟨c,hc⟩:=ba_at h
 refine Good.of_vmQ TT 4000 Tryz.func204 rfl rfl ?_
 unfold Tryz.f204
 simp only [go_sem,go_sem_proc]
 have f1:(((c.toNat:Nat):Int) != 37) = !(c.toNat == 37):=by rw [Bool.eq_iff_iff];simp;omega
 have f2:(((c.toNat:Nat):Int) != 95) = !(c.toNat == 95):=by rw [Bool.eq_iff_iff];simp;omega
 have f3:(((c.toNat:Nat):Int) == 92)=(c.toNat == 92):=by rw [Bool.eq_iff_iff];simp;omega
 refine Dr.of TT (by kernel_rfl) [] trivial ?_
 unfold nextS
 rw [hc]
 cases g1:(c.toNat == 37)
 ·simp only [go_sem,hc,f1,f2,g1,go_sem_proc]
  refine DEnd.of TT 4000 (memOK_quiet rfl) ?_
  by_cases g3:c.toNat=92
  ·have g3':(c.toNat == 92)=true:=by simp [g3]
   have n92:((((92:Nat):Int)) == 92)=true:=rfl
   simp only [go_sem,f3,g3',g3,n92,go_sem_proc]
   rcases Nat.lt_or_ge 1 p.size with h1 | h1
   ·obtain ⟨d,hd⟩:=ba_at h1
    have hs1:((p.size:Int) == 1)=false:=by simp;omega
    rw [hd]
    by_cases hx:idxI likeW d.toNat < 0
    ·simp only [go_sem,hs1,hd,go_sem_proc]
     refine Cl.pure TT 4000 (strings_IndexByte likeW d.toNat) rfl rfl ?_
     simp only [go_sem,hx,hd,go_sem_proc]
    ·simp only [go_sem,hs1,hd,go_sem_proc]
     refine Cl.pure TT 4000 (strings_IndexByte likeW d.toNat) rfl rfl ?_
     simp only [go_sem,hx,hd,go_sem_proc]
   ·have hs1:((p.size:Int) == 1)=true:=by simp;omega
    have hd:p[1]?=none:=getElem?_neg p 1 (by omega)
    rw [hd]
    simp only [go_sem,hs1,go_sem_proc]
  ·have g3':(c.toNat == 92)=false:=by simp [g3]
   simp only [go_sem,f3,g3',g3,g1,go_sem_proc]
 ·simp only [go_sem,hc,f1,f2,g1,go_sem_proc]
  refine DEnd.of TT 4000 (memOK_quiet rfl) ?_
  have g3:¬ c.toNat=92:=by have:=eq_of_beq g1;omega
  have g3':(c.toNat == 92)=false:=by simp [g3]
  simp only [go_sem,f3,g3',g3,g1,go_sem_proc]
theorem next_len {p:ByteArray} (h:0 < p.size):(nextS p).2.1=0 ∨ (1 ≤ (nextS p).2.1 ∧ (nextS p).2.1 ≤ p.size):=by
 obtain ⟨c,hc⟩:=ba_at h
 unfold nextS
 rw [hc]
 simp only []
 split
 ·cases hd:p[1]? with
  | none=>exact .inl rfl
  | some d =>
   have h1:1 < p.size:=by
    rcases Nat.lt_or_ge 1 p.size with h1 | h1
    ·exact h1
    ·rw [getElem?_neg p 1 (by omega)] at hd;cases hd
   simp only []
   split
   ·exact .inl rfl
   ·exact .inr ⟨by simp,by simp;omega⟩
 ·exact .inr ⟨by simp,by simp;omega⟩
def tailP (p:ByteArray):ByteArray:=p.extract (nextS p).2.1.toNat p.size
theorem tail_size {p:ByteArray} (h:0 < p.size) (h2:(nextS p).2.1 ≠ 0):(tailP p).size < p.size:=by
 have:=next_len h
 unfold tailP
 rw [ByteArray.size_extract]
 omega
def likeC (p:ByteArray):Int:=if h:0 < p.size then (if h2:(nextS p).2.1=0 then 40 else likeC (tailP p)) else 0
 termination_by p.size
 decreasing_by exact tail_size h h2
theorem like_Check (p:ByteArray):Good Tryz.prog 203 [cS p] [] (cI (likeC p)) []:=by
 refine Good.of_vmQ TT 4000 Tryz.func203 rfl rfl ?_
 unfold Tryz.f203
 simp only [go_sem,go_sem_proc]
 refine Lp.at TT 4000 0 (Nat.le_of_ble_eq_true rfl) [true,false,true,true,true,true,true,true,true,true,true,true,true,true,true,true,true,true,true] (fun q:ByteArray=>q.size) (fun q=>likeC q=likeC p) (fun q=>[(0,cS q)]) (fun _=>[]) (p) (rfl) ?_ ?_
 ·simp only [go_sem,go_sem_proc]
 ·rintro q i1
  rw [likeC] at i1
  rcases Nat.lt_or_ge 0 q.size with h | h
  ·rw [dif_pos h] at i1
   have hne:(q.toList == (⟨#[]⟩:ByteArray).toList)=false:=by
    rw [Go.ByteArray.toList_eq,Go.ByteArray.toList_eq]
    have:q.data.toList ≠ []:=fun e=>by
     have:q.size=q.data.toList.length:=rfl
     rw [e,List.length_nil] at this;omega
    simpa using this
   simp only [go_sem,hne,go_sem_proc]
   refine Cl.pure TT 4000 (like_next q h) rfl rfl ?_
   have hn:=next_len h
   by_cases h0:(nextS q).2.1=0
   ·rw [dif_pos h0] at i1
    have h0':((nextS q).2.1 == 0)=true:=by simp [h0]
    simp only [go_sem,h0',go_sem_proc]
    exact Le.of_eq (congrArg cI i1)
   ·rw [dif_neg h0] at i1
    have h0':((nextS q).2.1 == 0)=false:=by simp [h0]
    simp only [go_sem,h0',go_sem_proc]
    exact ⟨by omega,tailP q,tail_size h h0,i1,Fit1.of_eq rfl⟩
  ·rw [dif_neg (by omega)] at i1
   have hq:q=⟨#[]⟩:=ByteArray.ext (by (have:q.data.size=0:=by have:q.size=q.data.size:=rfl;omega);exact Array.eq_empty_of_size_eq_zero this)
   subst hq
   simp only [go_sem,go_sem_proc]
   exact Le.of_eq (congrArg cI i1)
def likeAt (s:ByteArray) (a:Nat) (p:ByteArray):Bool:=match s[a]? with
 | some c=>!(nextS p).2.2 || ((c.toNat:Int) == (nextS p).1)
 | none=>false
def likeG (s p back:ByteArray) (from_:Int) (at_:Nat):Bool:=
 if hf:(at_:Int) < from_ then false
 else if hp:0 < p.size then
  if h0:(nextS p).2.1=0 then false
  else if (nextS p).2.2=false ∧ (nextS p).1=37 then likeG s (tailP p) (tailP p) at_ at_
  else if likeAt s at_ p=true then likeG s (tailP p) back from_ (at_ + 1)
  else if hb:from_ < 0 ∨ (s.size:Int) ≤ from_ then false else likeG s back back (from_ + 1) (from_ + 1).toNat
 else if at_=s.size then true
 else if hb:from_ < 0 ∨ (s.size:Int) ≤ from_ then false else likeG s back back (from_ + 1) (from_ + 1).toNat
 termination_by (((s.size:Int) - from_).toNat,p.size)
 decreasing_by
  ·have:=tail_size hp h0
   rcases Nat.lt_or_ge (((s.size:Int) - at_).toNat) (((s.size:Int) - from_).toNat) with h | h
   ·exact Prod.Lex.left _ _ h
   ·have e:((s.size:Int) - at_).toNat=((s.size:Int) - from_).toNat:=by omega
    rw [e];exact Prod.Lex.right _ this
  ·exact Prod.Lex.right _ (tail_size hp h0)
  ·exact Prod.Lex.left _ _ (by omega)
  ·exact Prod.Lex.left _ _ (by omega)
def likeS (s p:ByteArray):Bool × Int:=if likeC p=0 then (likeG s p ⟨#[]⟩ (-1) 0,0) else (false,likeC p)
structure LikeI (s p:ByteArray) (q b:ByteArray) (f:Int) (a:Nat):Prop where
 from0:-1 ≤ f
 le:f ≤ a
 top:a ≤ s.size
 ok:likeC q=0
 okb:0 ≤ f → likeC b=0
 lq:q.size ≤ p.size
 lb:b.size ≤ p.size
 go:likeG s q b f a=likeG s p ⟨#[]⟩ (-1) 0
theorem LikeI.start {s p:ByteArray} (hc:likeC p=0):LikeI s p p ⟨#[]⟩ (-1) 0:=⟨by omega,by omega,by omega,hc,fun h=>absurd h (by omega),Nat.le_refl _,Nat.zero_le _,rfl⟩
theorem like_mu1 {X Y P q r:Nat} (h:Y ≤ X) (h2:r < q):Y * (P + 1) + r < X * (P + 1) + q:=by
 have:=Nat.mul_le_mul_right (P + 1) h
 omega
theorem like_mu2 {X Y P b q:Nat} (h:Y + 1=X) (hb:b ≤ P):Y * (P + 1) + b < X * (P + 1) + q:=by
 subst h
 rw [Nat.add_mul,Nat.one_mul]
 omega
theorem ba_ne {q:ByteArray} (h:0 < q.size):(q.toList == (⟨#[]⟩:ByteArray).toList)=false:=by
 rw [Go.ByteArray.toList_eq,Go.ByteArray.toList_eq]
 have:q.data.toList ≠ []:=fun e=>by
  have:q.size=q.data.toList.length:=rfl
  rw [e,List.length_nil] at this;omega
 simpa using this
theorem ba_nil {q:ByteArray} (h:¬ 0 < q.size):q=⟨#[]⟩:=ByteArray.ext (by
 have:q.size=q.data.size:=rfl
 exact Array.eq_empty_of_size_eq_zero (by omega))
theorem like_Like (s p:ByteArray) (hs:s.size ≤ 1000000000):Good Tryz.prog 179 [cS s,cS p] [] (.tup [cB (likeS s p).1,cI (likeS s p).2]) []:=by
 refine Good.of_vmQ TT 4000 Tryz.func179 rfl rfl ?_
 unfold Tryz.f179
 simp only [go_sem,go_sem_proc]
 refine Cl.pure TT 4000 (like_Check p) rfl rfl ?_
 unfold likeS
 by_cases hc:likeC p=0
 ·have hc':(likeC p != 0)=false:=by simp [hc]
  simp only [go_sem,hc',hc,go_sem_proc]
  refine Lp.at TT 4000 0 (Nat.le_of_ble_eq_true rfl) [false,false,false,false,true,true,false,true,true,true,true,true,true,true,false,false,false,false,false,false,true,true,true,true,true,true,true,true,true,true,true,true,true,true,true,true,true,true,true,true,true,true,true,true,true,true,true,true,true,true,true,true,true,true,true,true,true,true,true,true,true,true,true,true,true,true,true,true,true,true,true,true,true,true,true] (fun x:ByteArray × ByteArray × Int × Nat=>((s.size:Int) - x.2.2.1).toNat * (p.size + 1) + x.1.size) (fun x=>LikeI s p x.1 x.2.1 x.2.2.1 x.2.2.2) (fun x=>[(7,cS x.1),(8,cS x.2.1),(9,cI x.2.2.1),(10,cI x.2.2.2)]) (fun _=>[]) ((p,⟨#[]⟩,-1,0)) (LikeI.start hc) ?_ ?_
  ·simp only [go_sem,go_sem_proc]
  ·rintro ⟨q,b,f,a⟩ I
   simp only at I
   obtain ⟨i1,i2,i3,i4,i5,i6,i7,i8⟩:=I
   have hwa:=wrap_succ (j:=a) (by omega)
   rw [likeG,dif_neg (by omega)] at i8
   by_cases h:0 < q.size
   ·have hne:=ba_ne h
    rw [dif_pos h] at i8
    rw [likeC,dif_pos h] at i4
    have hn:=next_len h
    by_cases h0:(nextS q).2.1=0
    ·rw [dif_pos h0] at i4;cases i4
    rw [dif_neg h0] at i4 i8
    have ht:=tail_size h h0
    have hnn:(0 ≤ (nextS q).2.1 ∧ (nextS q).2.1 ≤ (q.size:Int)):=by omega
    have hte:q.extract (nextS q).2.1.toNat q.size=tailP q:=rfl
    simp only [go_sem,hne,go_sem_proc]
    refine Cl.pure TT 4000 (like_next q h) rfl rfl ?_
    rcases Bool.eq_false_or_eq_true (!(nextS q).2.2) with hpl | hpl <;> simp only [Bool.not_eq_true',Bool.not_eq_false'] at hpl
    ·by_cases h37:(nextS q).1=37
     ·have h37':((nextS q).1 == 37)=true:=by simp [h37]
      rw [if_pos ⟨hpl,h37⟩] at i8
      simp only [go_sem,hpl,h37',hnn,hte,go_sem_proc]
      exact ⟨(tailP q,tailP q,(a:Int),a),like_mu1 (by simp only;omega) ht,⟨by simp only;omega,by simp only;omega,i3,i4,fun _=>i4,Nat.le_trans (Nat.le_of_lt ht) i6,Nat.le_trans (Nat.le_of_lt ht) i6,i8⟩,Fit1.of_eq rfl,Fit1.of_eq rfl,Fit1.of_eq rfl,Fit1.of_eq rfl⟩
     ·have h37':((nextS q).1 == 37)=false:=by simp [h37]
      rw [if_neg (fun h=>h37 h.2)] at i8
      by_cases ha:a < s.size
      ·obtain ⟨d,hd⟩:=ba_at ha
       have hL:likeAt s a q=true:=by unfold likeAt;rw [hd,hpl];rfl
       rw [if_pos hL] at i8
       simp only [go_sem,hpl,h37',ha,hnn,hte,go_sem_proc]
       exact ⟨(tailP q,b,f,a + 1),like_mu1 (Nat.le_refl _) ht,⟨i1,by simp only;omega,by simp only;omega,i4,i5,Nat.le_trans (Nat.le_of_lt ht) i6,i7,i8⟩,Fit1.of_eq rfl,Fit1.of_eq rfl,Fit1.of_eq rfl,Fit1.of_eq (congrArg cI hwa)⟩
      ·have hd:s[a]?=none:=getElem?_neg s a (by omega)
       have hL:¬ likeAt s a q=true:=by unfold likeAt;rw [hd];simp
       rw [if_neg hL] at i8
       simp only [go_sem,hpl,h37',ha,go_sem_proc]
       by_cases f0:f < 0
       ·have f0':decide (f < 0)=true:=decide_eq_true f0
        rw [dif_pos (.inl f0)] at i8
        simp only [go_sem,f0',f0,go_sem_proc]
        exact Le.of_eq (congrArg (fun x=>AV.tup [cB x,cI 0]) i8)
       ·have f0':decide (f < 0)=false:=decide_eq_false f0
        by_cases f1:f=s.size
        ·have f1':(f == (s.size:Int))=true:=by simp [f1]
         rw [dif_pos (.inr (by omega))] at i8
         simp only [go_sem,f0',f0,f1',go_sem_proc]
         exact Le.of_eq (congrArg (fun x=>AV.tup [cB x,cI 0]) i8)
        ·have f1':(f == (s.size:Int))=false:=by simp [f1]
         rw [dif_neg (by omega)] at i8
         have hw:IntKind.wrap .i64 (f + 1)=f + 1:=wrap_id (by omega) (by omega)
         simp only [go_sem,f0',f0,f1',hw,go_sem_proc]
         exact ⟨(b,b,f + 1,(f + 1).toNat),like_mu2 (by simp only;omega) i7,⟨by simp only;omega,by simp only;omega,by simp only;omega,i5 (by omega),fun _=>i5 (by omega),i7,i7,i8⟩,Fit1.of_eq rfl,Fit1.of_eq rfl,Fit1.of_eq rfl,Fit1.of_eq (congrArg cI (by simp only;omega))⟩
    ·rw [if_neg (fun h=>by rw [hpl] at h;cases h.1)] at i8
     by_cases ha:a < s.size
     ·obtain ⟨d,hd⟩:=ba_at ha
      rcases Bool.eq_false_or_eq_true (!((d.toNat:Int) == (nextS q).1)) with hdc | hdc <;> simp only [Bool.not_eq_true',Bool.not_eq_false'] at hdc
      ·have hL:¬ likeAt s a q=true:=by unfold likeAt;rw [hd,hpl];simp [hdc]
       rw [if_neg hL] at i8
       simp only [go_sem,hpl,ha,hd,hdc,go_sem_proc]
       by_cases f0:f < 0
       ·have f0':decide (f < 0)=true:=decide_eq_true f0
        rw [dif_pos (.inl f0)] at i8
        simp only [go_sem,f0',f0,go_sem_proc]
        exact Le.of_eq (congrArg (fun x=>AV.tup [cB x,cI 0]) i8)
       ·have f0':decide (f < 0)=false:=decide_eq_false f0
        by_cases f1:f=s.size
        ·have f1':(f == (s.size:Int))=true:=by simp [f1]
         rw [dif_pos (.inr (by omega))] at i8
         simp only [go_sem,f0',f0,f1',go_sem_proc]
         exact Le.of_eq (congrArg (fun x=>AV.tup [cB x,cI 0]) i8)
        ·have f1':(f == (s.size:Int))=false:=by simp [f1]
         rw [dif_neg (by omega)] at i8
         have hw:IntKind.wrap .i64 (f + 1)=f + 1:=wrap_id (by omega) (by omega)
         simp only [go_sem,f0',f0,f1',hw,go_sem_proc]
         exact ⟨(b,b,f + 1,(f + 1).toNat),like_mu2 (by simp only;omega) i7,⟨by simp only;omega,by simp only;omega,by simp only;omega,i5 (by omega),fun _=>i5 (by omega),i7,i7,i8⟩,Fit1.of_eq rfl,Fit1.of_eq rfl,Fit1.of_eq rfl,Fit1.of_eq (congrArg cI (by simp only;omega))⟩
      ·have hL:likeAt s a q=true:=by unfold likeAt;rw [hd,hpl];simp [hdc]
       rw [if_pos hL] at i8
       simp only [go_sem,hpl,ha,hd,hdc,hnn,hte,go_sem_proc]
       exact ⟨(tailP q,b,f,a + 1),like_mu1 (Nat.le_refl _) ht,⟨i1,by simp only;omega,by simp only;omega,i4,i5,Nat.le_trans (Nat.le_of_lt ht) i6,i7,i8⟩,Fit1.of_eq rfl,Fit1.of_eq rfl,Fit1.of_eq rfl,Fit1.of_eq (congrArg cI hwa)⟩
     ·have hd:s[a]?=none:=getElem?_neg s a (by omega)
      have hL:¬ likeAt s a q=true:=by unfold likeAt;rw [hd];simp
      rw [if_neg hL] at i8
      simp only [go_sem,hpl,ha,go_sem_proc]
      by_cases f0:f < 0
      ·have f0':decide (f < 0)=true:=decide_eq_true f0
       rw [dif_pos (.inl f0)] at i8
       simp only [go_sem,f0',f0,go_sem_proc]
       exact Le.of_eq (congrArg (fun x=>AV.tup [cB x,cI 0]) i8)
      ·have f0':decide (f < 0)=false:=decide_eq_false f0
       by_cases f1:f=s.size
       ·have f1':(f == (s.size:Int))=true:=by simp [f1]
        rw [dif_pos (.inr (by omega))] at i8
        simp only [go_sem,f0',f0,f1',go_sem_proc]
        exact Le.of_eq (congrArg (fun x=>AV.tup [cB x,cI 0]) i8)
       ·have f1':(f == (s.size:Int))=false:=by simp [f1]
        rw [dif_neg (by omega)] at i8
        have hw:IntKind.wrap .i64 (f + 1)=f + 1:=wrap_id (by omega) (by omega)
        simp only [go_sem,f0',f0,f1',hw,go_sem_proc]
        exact ⟨(b,b,f + 1,(f + 1).toNat),like_mu2 (by simp only;omega) i7,⟨by simp only;omega,by simp only;omega,by simp only;omega,i5 (by omega),fun _=>i5 (by omega),i7,i7,i8⟩,Fit1.of_eq rfl,Fit1.of_eq rfl,Fit1.of_eq rfl,Fit1.of_eq (congrArg cI (by simp only;omega))⟩
   ·have hq:=ba_nil h
    subst hq
    rw [dif_neg h] at i8
    by_cases ha:a=s.size
    ·have ha':((a:Int) == (s.size:Int))=true:=by simp [ha]
     rw [if_pos ha] at i8
     simp only [go_sem,ha',go_sem_proc]
     exact Le.of_eq (congrArg (fun x=>AV.tup [cB x,cI 0]) i8)
    ·have ha':((a:Int) == (s.size:Int))=false:=by simp;omega
     rw [if_neg ha] at i8
     simp only [go_sem,ha',go_sem_proc]
     by_cases f0:f < 0
     ·have f0':decide (f < 0)=true:=decide_eq_true f0
      rw [dif_pos (.inl f0)] at i8
      simp only [go_sem,f0',f0,go_sem_proc]
      exact Le.of_eq (congrArg (fun x=>AV.tup [cB x,cI 0]) i8)
     ·have f0':decide (f < 0)=false:=decide_eq_false f0
      by_cases f1:f=s.size
      ·have f1':(f == (s.size:Int))=true:=by simp [f1]
       rw [dif_pos (.inr (by omega))] at i8
       simp only [go_sem,f0',f0,f1',go_sem_proc]
       exact Le.of_eq (congrArg (fun x=>AV.tup [cB x,cI 0]) i8)
      ·have f1':(f == (s.size:Int))=false:=by simp [f1]
       rw [dif_neg (by omega)] at i8
       have hw:IntKind.wrap .i64 (f + 1)=f + 1:=wrap_id (by omega) (by omega)
       simp only [go_sem,f0',f0,f1',hw,go_sem_proc]
       exact ⟨(b,b,f + 1,(f + 1).toNat),like_mu2 (by simp only;omega) i7,⟨by simp only;omega,by simp only;omega,by simp only;omega,i5 (by omega),fun _=>i5 (by omega),i7,i7,i8⟩,Fit1.of_eq rfl,Fit1.of_eq rfl,Fit1.of_eq rfl,Fit1.of_eq (congrArg cI (by simp only;omega))⟩
 ·have hc':(likeC p != 0)=true:=by simp [hc]
  simp only [go_sem,hc',hc,go_sem_proc]
end Go.Ev
end
