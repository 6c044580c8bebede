import Derived.Test.YtifdakibkadfiaaGreatDoorMe3
set_option linter.all false
set_option maxRecDepth 100000
set_option maxHeartbeats 8000000
section
open Go Go.Proofs
namespace Go.Ev
theorem qS (F:CV):Good Tryz.prog 131 [.c F] [] (.tup [.agg [cI 2,cI 2,.c (.fn 132 [.pt [F]])],cB true]) []:=by
 refine Good.zg TT 4000 Tryz.func131 rfl rfl ?_
 unfold Tryz.f131
 simp only [go_sem,go_sem_proc]
theorem zfe (g:FuncId) (caps:List CV) (vs:List Val) (x y:Val) (hx:vs[0]?=some x) (hy:vs[1]?=some y) {res:Val} {f:Int} (G:Good Tryz.prog g (x.av :: y.av :: caps.map opn) [] (qY res f) []):Good Tryz.prog 132 [.c (qk vs),.rd [.fn g caps]] [] (qY res f) []:=by
 have h0:1 < vs.length:=(List.getElem?_eq_some_iff.1 hy).1
 refine Good.zg TT 4000 Tryz.func132 rfl rfl ?_
 unfold Tryz.f132
 simp only [go_sem,go_sem_proc]
 refine Dr.of TT (by kernel_rfl) [(g,x.av :: y.av :: caps.map opn,qY res f)] ⟨⟨G,rfl⟩,trivial⟩ ?_
 simp only [go_sem,hx,hy,go_sem_proc]
 refine ⟨by omega,by omega,jy.of TT 4000 (zJ (by kernel_rfl)) ?_⟩
 simp only [go_sem,go_sem_proc]
 exact Le.refl _
theorem za3 (a b:Val) (ha:I64 a.i) (hb:I64 b.i):Good Tryz.prog 137 [a.av,b.av] [] (qY (lgS 0 [a,b]).1 (lgS 0 [a,b]).2) []:=by
 refine Good.zg TT 4000 Tryz.func137 rfl rfl ?_
 unfold Tryz.f137
 simp only [go_sem,go_sem_proc]
 have hab:∀ x,x ∈ [a,b] → I64 x.i:=fun x hx=>by
  simp only [List.mem_cons,List.not_mem_nil,or_false] at hx
  rcases hx with rfl | rfl
  ·exact ha
  ·exact hb
 (refine Cl.pure TT 4000 (KR [a,b] hab) rfl rfl ?_;simp only [go_sem,go_sem_proc])
 exact Le.refl _
theorem YI (a b:Val) (ha:I64 a.i) (hb:I64 b.i):Good Tryz.prog 139 [a.av,b.av] [] (qY (lgS 1 [a,b]).1 (lgS 1 [a,b]).2) []:=by
 refine Good.zg TT 4000 Tryz.func139 rfl rfl ?_
 unfold Tryz.f139
 simp only [go_sem,go_sem_proc]
 have hab:∀ x,x ∈ [a,b] → I64 x.i:=fun x hx=>by
  simp only [List.mem_cons,List.not_mem_nil,or_false] at hx
  rcases hx with rfl | rfl
  ·exact ha
  ·exact hb
 (refine Cl.pure TT 4000 (zbH [a,b] hab) rfl rfl ?_;simp only [go_sem,go_sem_proc])
 exact Le.refl _
theorem vr (op:ByteArray) (a b:Val) (ha:I64 a.i) (hb:I64 b.i):Good Tryz.prog 146 [a.av,b.av,.rd [.str op]] [] (qY (qX op a b).1 (qX op a b).2) []:=by
 refine Good.zg TT 4000 Tryz.func146 rfl rfl ?_
 unfold Tryz.f146
 simp only [go_sem,go_sem_proc]
 (refine Cl.pure TT 4000 (Zu op a b ha hb) rfl rfl ?_;simp only [go_sem,go_sem_proc])
 exact Le.refl _
theorem jo (op:ByteArray) (a b:Val) {res:Val} {f:Int} (G:Good Tryz.prog 78 [cS op,a.av,b.av] [] (qY res f) []):Good Tryz.prog 148 [a.av,b.av,.rd [.str op]] [] (qY res f) []:=by
 refine Good.zg TT 4000 Tryz.func148 rfl rfl ?_
 unfold Tryz.f148
 simp only [go_sem,go_sem_proc]
 (refine Cl.pure TT 4000 (G) rfl rfl ?_;simp only [go_sem,go_sem_proc])
 exact Le.refl _
theorem zaV (v:Val) (l:List Val) (hv:I64 v.i) (hi:∀ x,x ∈ l → I64 x.i) (hb:l.length ≤ 1000000):Good Tryz.prog 144 [.c (qk (v :: l))] [] (qY (inS v l).1 (inS v l).2) []:=by
 refine Good.zg TT 4000 Tryz.func144 rfl rfl ?_
 unfold Tryz.f144
 simp only [go_sem,go_sem_proc]
 refine Dr.of TT (by kernel_rfl) [(145,[v.av,.c (qk l)],qY (inS v l).1 (inS v l).2)] ⟨⟨zjp v l hv hi hb,rfl⟩,trivial⟩ ?_
 have hk:List.take l.length (l.map Val.cs)=l.map Val.cs:=List.take_of_length_le (by simp)
 simp only [go_sem,hk,go_sem_proc]
 refine ⟨by omega,by omega,jy.of TT 4000 (zJ (by kernel_rfl)) ?_⟩
 simp only [go_sem,go_sem_proc]
 exact Le.refl _
def k6 (a b c:Val):Val × Int:=if (qX ⟨#[62,61]⟩ a b).2=0 then (if (qX ⟨#[60,61]⟩ a c).2=0 then lgS 0 [(qX ⟨#[62,61]⟩ a b).1,(qX ⟨#[60,61]⟩ a c).1] else qX ⟨#[60,61]⟩ a c) else qX ⟨#[62,61]⟩ a b
theorem WA (a b c:Val) (ha:I64 a.i) (hb:I64 b.i) (hc:I64 c.i):Good Tryz.prog 143 [.c (qk [a,b,c])] [] (qY (k6 a b c).1 (k6 a b c).2) []:=by
 refine Good.zg TT 4000 Tryz.func143 rfl rfl ?_
 unfold Tryz.f143
 simp only [go_sem,go_sem_proc]
 refine Dr.of TT (by kernel_rfl) [(147,[cS ⟨#[62,61]⟩,a.av,b.av],qY (qX ⟨#[62,61]⟩ a b).1 (qX ⟨#[62,61]⟩ a b).2)] ⟨⟨Zu _ a b ha hb,rfl⟩,trivial⟩ ?_
 simp only [go_sem,go_sem_proc]
 refine ⟨by omega,by omega,?_⟩
 refine jy.of TT 4000 (zJ (by kernel_rfl)) ?_
 unfold k6
 by_cases c1:(qX ⟨#[62,61]⟩ a b).2=0
 ·have c1':((qX ⟨#[62,61]⟩ a b).2 != 0)=false:=by simp [c1]
  simp only [go_sem,c1',c1,go_sem_proc]
  refine Dr.of TT (by kernel_rfl) [(147,[cS ⟨#[60,61]⟩,a.av,c.av],qY (qX ⟨#[60,61]⟩ a c).1 (qX ⟨#[60,61]⟩ a c).2)] ⟨⟨Zu _ a c ha hc,rfl⟩,trivial⟩ ?_
  simp only [go_sem,go_sem_proc]
  refine ⟨by omega,by omega,?_⟩
  refine jy.of TT 4000 (zJ (by kernel_rfl)) ?_
  by_cases c2:(qX ⟨#[60,61]⟩ a c).2=0
  ·have c2':((qX ⟨#[60,61]⟩ a c).2 != 0)=false:=by simp [c2]
   simp only [go_sem,c2',c2,go_sem_proc]
   refine Cl.pure TT 4000 (KR [(qX ⟨#[62,61]⟩ a b).1,(qX ⟨#[60,61]⟩ a c).1] (fun x hx=>by
    simp only [List.mem_cons,List.not_mem_nil,or_false] at hx
    rcases hx with rfl | rfl <;> exact zb1 _ _ _)) rfl rfl ?_
   simp only [go_sem,go_sem_proc]
   exact Le.refl _
  ·have c2':((qX ⟨#[60,61]⟩ a c).2 != 0)=true:=by simp [c2]
   simp only [go_sem,c2',c2,go_sem_proc]
   exact Le.refl _
 ·have c1':((qX ⟨#[62,61]⟩ a b).2 != 0)=true:=by simp [c1]
  simp only [go_sem,c1',c1,go_sem_proc]
  exact Le.refl _
theorem zeU:Good Tryz.prog 87 [cS ⟨#[110,101,103]⟩] [] (.tup [.agg [cI 1,cI 1,.c (.fn 130 [.pt [.fn 133 []]])],cB true]) []:=by
 refine Good.zg TT 4000 Tryz.func87 rfl rfl ?_
 unfold Tryz.f87
 simp only [go_sem,go_sem_proc]
 refine Cl.fzP TT 4000 0 1 ?_
 simp only [go_sem,go_sem_proc]
 refine Cl.pure TT 4000 (QE (.fn 133 [])) rfl rfl ?_
 simp only [go_sem,go_sem_proc]
theorem zgG:Good Tryz.prog 87 [cS ⟨#[110,111,116]⟩] [] (.tup [.agg [cI 1,cI 1,.c (.fn 130 [.pt [.fn 134 []]])],cB true]) []:=by
 refine Good.zg TT 4000 Tryz.func87 rfl rfl ?_
 unfold Tryz.f87
 simp only [go_sem,go_sem_proc]
 refine Cl.fzP TT 4000 0 1 ?_
 simp only [go_sem,go_sem_proc]
 refine Cl.pure TT 4000 (QE (.fn 134 [])) rfl rfl ?_
 simp only [go_sem,go_sem_proc]
theorem JL:Good Tryz.prog 87 [cS ⟨#[110,111,116,110,117,108,108]⟩] [] (.tup [.agg [cI 1,cI 1,.c (.fn 130 [.pt [.fn 135 [.pt [.str ⟨#[110,111,116,110,117,108,108]⟩]]]])],cB true]) []:=by
 refine Good.zg TT 4000 Tryz.func87 rfl rfl ?_
 unfold Tryz.f87
 simp only [go_sem,go_sem_proc]
 refine Cl.fzP TT 4000 0 1 ?_
 simp only [go_sem,go_sem_proc]
 refine Cl.pure TT 4000 (QE (.fn 135 [.pt [.str ⟨#[110,111,116,110,117,108,108]⟩]])) rfl rfl ?_
 simp only [go_sem,go_sem_proc]
theorem zgA:Good Tryz.prog 87 [cS ⟨#[97,110,100]⟩] [] (.tup [.agg [cI 2,cI 2,.c (.fn 132 [.pt [.fn 137 []]])],cB true]) []:=by
 refine Good.zg TT 4000 Tryz.func87 rfl rfl ?_
 unfold Tryz.f87
 simp only [go_sem,go_sem_proc]
 refine Cl.fzP TT 4000 0 1 ?_
 simp only [go_sem,go_sem_proc]
 refine Cl.pure TT 4000 (qS (.fn 137 [])) rfl rfl ?_
 simp only [go_sem,go_sem_proc]
theorem ziF:Good Tryz.prog 87 [cS ⟨#[111,114]⟩] [] (.tup [.agg [cI 2,cI 2,.c (.fn 132 [.pt [.fn 139 []]])],cB true]) []:=by
 refine Good.zg TT 4000 Tryz.func87 rfl rfl ?_
 unfold Tryz.f87
 simp only [go_sem,go_sem_proc]
 refine Cl.fzP TT 4000 0 1 ?_
 simp only [go_sem,go_sem_proc]
 refine Cl.pure TT 4000 (qS (.fn 139 [])) rfl rfl ?_
 simp only [go_sem,go_sem_proc]
theorem zgM:Good Tryz.prog 87 [cS ⟨#[124,124]⟩] [] (.tup [.agg [cI 2,cI 2,.c (.fn 132 [.pt [.fn 141 []]])],cB true]) []:=by
 refine Good.zg TT 4000 Tryz.func87 rfl rfl ?_
 unfold Tryz.f87
 simp only [go_sem,go_sem_proc]
 refine Cl.fzP TT 4000 0 1 ?_
 simp only [go_sem,go_sem_proc]
 refine Cl.pure TT 4000 (qS (.fn 141 [])) rfl rfl ?_
 simp only [go_sem,go_sem_proc]
theorem zdm:Good Tryz.prog 87 [cS ⟨#[108,105,107,101]⟩] [] (.tup [.agg [cI 2,cI 2,.c (.fn 132 [.pt [.fn 142 []]])],cB true]) []:=by
 refine Good.zg TT 4000 Tryz.func87 rfl rfl ?_
 unfold Tryz.f87
 simp only [go_sem,go_sem_proc]
 refine Cl.fzP TT 4000 0 1 ?_
 simp only [go_sem,go_sem_proc]
 refine Cl.pure TT 4000 (qS (.fn 142 [])) rfl rfl ?_
 simp only [go_sem,go_sem_proc]
theorem ziR:Good Tryz.prog 87 [cS ⟨#[61]⟩] [] (.tup [.agg [cI 2,cI 2,.c (.fn 132 [.pt [.fn 146 [.pt [.str ⟨#[61]⟩]]]])],cB true]) []:=by
 refine Good.zg TT 4000 Tryz.func87 rfl rfl ?_
 unfold Tryz.f87
 simp only [go_sem,go_sem_proc]
 refine Cl.fzP TT 4000 0 1 ?_
 simp only [go_sem,go_sem_proc]
 refine Cl.pure TT 4000 (qS (.fn 146 [.pt [.str ⟨#[61]⟩]])) rfl rfl ?_
 simp only [go_sem,go_sem_proc]
theorem ziN:Good Tryz.prog 87 [cS ⟨#[60,62]⟩] [] (.tup [.agg [cI 2,cI 2,.c (.fn 132 [.pt [.fn 146 [.pt [.str ⟨#[60,62]⟩]]]])],cB true]) []:=by
 refine Good.zg TT 4000 Tryz.func87 rfl rfl ?_
 unfold Tryz.f87
 simp only [go_sem,go_sem_proc]
 refine Cl.fzP TT 4000 0 1 ?_
 simp only [go_sem,go_sem_proc]
 refine Cl.pure TT 4000 (qS (.fn 146 [.pt [.str ⟨#[60,62]⟩]])) rfl rfl ?_
 simp only [go_sem,go_sem_proc]
theorem zi8:Good Tryz.prog 87 [cS ⟨#[60]⟩] [] (.tup [.agg [cI 2,cI 2,.c (.fn 132 [.pt [.fn 146 [.pt [.str ⟨#[60]⟩]]]])],cB true]) []:=by
 refine Good.zg TT 4000 Tryz.func87 rfl rfl ?_
 unfold Tryz.f87
 simp only [go_sem,go_sem_proc]
 refine Cl.fzP TT 4000 0 1 ?_
 simp only [go_sem,go_sem_proc]
 refine Cl.pure TT 4000 (qS (.fn 146 [.pt [.str ⟨#[60]⟩]])) rfl rfl ?_
 simp only [go_sem,go_sem_proc]
theorem zja:Good Tryz.prog 87 [cS ⟨#[60,61]⟩] [] (.tup [.agg [cI 2,cI 2,.c (.fn 132 [.pt [.fn 146 [.pt [.str ⟨#[60,61]⟩]]]])],cB true]) []:=by
 refine Good.zg TT 4000 Tryz.func87 rfl rfl ?_
 unfold Tryz.f87
 simp only [go_sem,go_sem_proc]
 refine Cl.fzP TT 4000 0 1 ?_
 simp only [go_sem,go_sem_proc]
 refine Cl.pure TT 4000 (qS (.fn 146 [.pt [.str ⟨#[60,61]⟩]])) rfl rfl ?_
 simp only [go_sem,go_sem_proc]
theorem zhH:Good Tryz.prog 87 [cS ⟨#[62]⟩] [] (.tup [.agg [cI 2,cI 2,.c (.fn 132 [.pt [.fn 146 [.pt [.str ⟨#[62]⟩]]]])],cB true]) []:=by
 refine Good.zg TT 4000 Tryz.func87 rfl rfl ?_
 unfold Tryz.f87
 simp only [go_sem,go_sem_proc]
 refine Cl.fzP TT 4000 0 1 ?_
 simp only [go_sem,go_sem_proc]
 refine Cl.pure TT 4000 (qS (.fn 146 [.pt [.str ⟨#[62]⟩]])) rfl rfl ?_
 simp only [go_sem,go_sem_proc]
theorem zh8:Good Tryz.prog 87 [cS ⟨#[62,61]⟩] [] (.tup [.agg [cI 2,cI 2,.c (.fn 132 [.pt [.fn 146 [.pt [.str ⟨#[62,61]⟩]]]])],cB true]) []:=by
 refine Good.zg TT 4000 Tryz.func87 rfl rfl ?_
 unfold Tryz.f87
 simp only [go_sem,go_sem_proc]
 refine Cl.fzP TT 4000 0 1 ?_
 simp only [go_sem,go_sem_proc]
 refine Cl.pure TT 4000 (qS (.fn 146 [.pt [.str ⟨#[62,61]⟩]])) rfl rfl ?_
 simp only [go_sem,go_sem_proc]
theorem zgD:Good Tryz.prog 87 [cS ⟨#[43]⟩] [] (.tup [.agg [cI 2,cI 2,.c (.fn 132 [.pt [.fn 148 [.pt [.str ⟨#[43]⟩]]]])],cB true]) []:=by
 refine Good.zg TT 4000 Tryz.func87 rfl rfl ?_
 unfold Tryz.f87
 simp only [go_sem,go_sem_proc]
 refine Cl.fzP TT 4000 0 1 ?_
 simp only [go_sem,go_sem_proc]
 refine Cl.pure TT 4000 (qS (.fn 148 [.pt [.str ⟨#[43]⟩]])) rfl rfl ?_
 simp only [go_sem,go_sem_proc]
theorem zfl:Good Tryz.prog 87 [cS ⟨#[45]⟩] [] (.tup [.agg [cI 2,cI 2,.c (.fn 132 [.pt [.fn 148 [.pt [.str ⟨#[45]⟩]]]])],cB true]) []:=by
 refine Good.zg TT 4000 Tryz.func87 rfl rfl ?_
 unfold Tryz.f87
 simp only [go_sem,go_sem_proc]
 refine Cl.fzP TT 4000 0 1 ?_
 simp only [go_sem,go_sem_proc]
 refine Cl.pure TT 4000 (qS (.fn 148 [.pt [.str ⟨#[45]⟩]])) rfl rfl ?_
 simp only [go_sem,go_sem_proc]
theorem zf5:Good Tryz.prog 87 [cS ⟨#[42]⟩] [] (.tup [.agg [cI 2,cI 2,.c (.fn 132 [.pt [.fn 148 [.pt [.str ⟨#[42]⟩]]]])],cB true]) []:=by
 refine Good.zg TT 4000 Tryz.func87 rfl rfl ?_
 unfold Tryz.f87
 simp only [go_sem,go_sem_proc]
 refine Cl.fzP TT 4000 0 1 ?_
 simp only [go_sem,go_sem_proc]
 refine Cl.pure TT 4000 (qS (.fn 148 [.pt [.str ⟨#[42]⟩]])) rfl rfl ?_
 simp only [go_sem,go_sem_proc]
theorem zfC:Good Tryz.prog 87 [cS ⟨#[47]⟩] [] (.tup [.agg [cI 2,cI 2,.c (.fn 132 [.pt [.fn 148 [.pt [.str ⟨#[47]⟩]]]])],cB true]) []:=by
 refine Good.zg TT 4000 Tryz.func87 rfl rfl ?_
 unfold Tryz.f87
 simp only [go_sem,go_sem_proc]
 refine Cl.fzP TT 4000 0 1 ?_
 simp only [go_sem,go_sem_proc]
 refine Cl.pure TT 4000 (qS (.fn 148 [.pt [.str ⟨#[47]⟩]])) rfl rfl ?_
 simp only [go_sem,go_sem_proc]
theorem zgd:Good Tryz.prog 87 [cS ⟨#[37]⟩] [] (.tup [.agg [cI 2,cI 2,.c (.fn 132 [.pt [.fn 148 [.pt [.str ⟨#[37]⟩]]]])],cB true]) []:=by
 refine Good.zg TT 4000 Tryz.func87 rfl rfl ?_
 unfold Tryz.f87
 simp only [go_sem,go_sem_proc]
 refine Cl.fzP TT 4000 0 1 ?_
 simp only [go_sem,go_sem_proc]
 refine Cl.pure TT 4000 (qS (.fn 148 [.pt [.str ⟨#[37]⟩]])) rfl rfl ?_
 simp only [go_sem,go_sem_proc]
theorem kY:Good Tryz.prog 87 [cS ⟨#[98,101,116,119,101,101,110]⟩] [] (.tup [.agg [cI 3,cI 3,.c (.fn 143 [])],cB true]) []:=by
 refine Good.zg TT 4000 Tryz.func87 rfl rfl ?_
 unfold Tryz.f87
 simp only [go_sem,go_sem_proc]
theorem za6:Good Tryz.prog 87 [cS ⟨#[105,110]⟩] [] (.tup [.agg [cI 1,cI 9223372036854775807,.c (.fn 144 [])],cB true]) []:=by
 refine Good.zg TT 4000 Tryz.func87 rfl rfl ?_
 unfold Tryz.f87
 simp only [go_sem,go_sem_proc]
def zD:List (List UInt8):=[(⟨#[110,101,103]⟩:ByteArray).toList,(⟨#[110,111,116]⟩:ByteArray).toList,(⟨#[105,115,110,117,108,108]⟩:ByteArray).toList,(⟨#[110,111,116,110,117,108,108]⟩:ByteArray).toList,(⟨#[97,110,100]⟩:ByteArray).toList,(⟨#[111,114]⟩:ByteArray).toList,(⟨#[124,124]⟩:ByteArray).toList,(⟨#[108,105,107,101]⟩:ByteArray).toList,(⟨#[98,101,116,119,101,101,110]⟩:ByteArray).toList,(⟨#[105,110]⟩:ByteArray).toList,(⟨#[61]⟩:ByteArray).toList,(⟨#[60,62]⟩:ByteArray).toList,(⟨#[60]⟩:ByteArray).toList,(⟨#[60,61]⟩:ByteArray).toList,(⟨#[62]⟩:ByteArray).toList,(⟨#[62,61]⟩:ByteArray).toList,(⟨#[43]⟩:ByteArray).toList,(⟨#[45]⟩:ByteArray).toList,(⟨#[42]⟩:ByteArray).toList,(⟨#[47]⟩:ByteArray).toList,(⟨#[37]⟩:ByteArray).toList]
theorem zcT (op:ByteArray) (h:∀ x,x ∈ zD → (op.toList == x)=false):Good Tryz.prog 87 [cS op] [] (.tup [.agg [cI 0,cI 0,.c .nfn],cB false]) []:=by
 have h0:=h _ (by unfold zD;simp:(⟨#[110,101,103]⟩:ByteArray).toList ∈ zD)
 have h1:=h _ (by unfold zD;simp:(⟨#[110,111,116]⟩:ByteArray).toList ∈ zD)
 have h2:=h _ (by unfold zD;simp:(⟨#[105,115,110,117,108,108]⟩:ByteArray).toList ∈ zD)
 have h3:=h _ (by unfold zD;simp:(⟨#[110,111,116,110,117,108,108]⟩:ByteArray).toList ∈ zD)
 have h4:=h _ (by unfold zD;simp:(⟨#[97,110,100]⟩:ByteArray).toList ∈ zD)
 have h5:=h _ (by unfold zD;simp:(⟨#[111,114]⟩:ByteArray).toList ∈ zD)
 have h6:=h _ (by unfold zD;simp:(⟨#[124,124]⟩:ByteArray).toList ∈ zD)
 have h7:=h _ (by unfold zD;simp:(⟨#[108,105,107,101]⟩:ByteArray).toList ∈ zD)
 have h8:=h _ (by unfold zD;simp:(⟨#[98,101,116,119,101,101,110]⟩:ByteArray).toList ∈ zD)
 have h9:=h _ (by unfold zD;simp:(⟨#[105,110]⟩:ByteArray).toList ∈ zD)
 have h10:=h _ (by unfold zD;simp:(⟨#[61]⟩:ByteArray).toList ∈ zD)
 have h11:=h _ (by unfold zD;simp:(⟨#[60,62]⟩:ByteArray).toList ∈ zD)
 have h12:=h _ (by unfold zD;simp:(⟨#[60]⟩:ByteArray).toList ∈ zD)
 have h13:=h _ (by unfold zD;simp:(⟨#[60,61]⟩:ByteArray).toList ∈ zD)
 have h14:=h _ (by unfold zD;simp:(⟨#[62]⟩:ByteArray).toList ∈ zD)
 have h15:=h _ (by unfold zD;simp:(⟨#[62,61]⟩:ByteArray).toList ∈ zD)
 have h16:=h _ (by unfold zD;simp:(⟨#[43]⟩:ByteArray).toList ∈ zD)
 have h17:=h _ (by unfold zD;simp:(⟨#[45]⟩:ByteArray).toList ∈ zD)
 have h18:=h _ (by unfold zD;simp:(⟨#[42]⟩:ByteArray).toList ∈ zD)
 have h19:=h _ (by unfold zD;simp:(⟨#[47]⟩:ByteArray).toList ∈ zD)
 have h20:=h _ (by unfold zD;simp:(⟨#[37]⟩:ByteArray).toList ∈ zD)
 clear h
 refine Good.zg TT 4000 Tryz.func87 rfl rfl ?_
 unfold Tryz.f87
 simp only [go_sem,h0,h1,h2,h3,h4,h5,h6,h7,h8,h9,h10,h11,h12,h13,h14,h15,h16,h17,h18,h19,h20,Bool.false_eq_true,go_sem_proc]
end Go.Ev
end
section
open Go Go.Proofs
namespace Go.Ev
def zhn (a:ByteArray) (c:Int):Int:=match (List.range a.size).find? fun i=>a[i]! == c.toNat.toUInt8 with
 | some i=>i
 | none=>-1
theorem zgK (a:ByteArray) (c:Int):KN a c=cI (zhn a c):=by
 unfold KN zhn
 cases (List.range a.size).find? fun i=>a[i]! == c.toNat.toUInt8 <;> rfl
theorem wO (a:ByteArray) (c:Int):Good Tryz.prog 233 [cS a,.c (.int .u8 c)] [] (cI (zhn a c)) []:=by
 rw [← zgK]
 exact Good.ext Tryz.func233 rfl rfl (by rfl) (by rfl) (by unfold KN;split <;> rfl) fun w N ρ vs hl hr=>zaf _ _ _ w N ρ vs hl hr
theorem stringslite_IndexByte (a:ByteArray) (c:Int):Good Tryz.prog 214 [cS a,.c (.int .u8 c)] [] (cI (zhn a c)) []:=by
 refine Good.zg TT 4000 Tryz.func214 rfl rfl ?_
 unfold Tryz.f214
 simp only [go_sem,go_sem_proc]
 (refine Cl.pure TT 4000 (wO a c) rfl rfl ?_;simp only [go_sem,go_sem_proc])
theorem strings_IndexByte (a:ByteArray) (c:Int):Good Tryz.prog 229 [cS a,.c (.int .u8 c)] [] (cI (zhn a c)) []:=by
 refine Good.zg TT 4000 Tryz.func229 rfl rfl ?_
 unfold Tryz.f229
 simp only [go_sem,go_sem_proc]
 (refine Cl.pure TT 4000 (stringslite_IndexByte a c) rfl rfl ?_;simp only [go_sem,go_sem_proc])
abbrev Y3:ByteArray:=⟨#[37,95,92]⟩
def qN (p:ByteArray):Int × Int × Bool:=match p[0]? with
 | none=>(0,0,false)
 | some c=>if c.toNat=92 then (match p[1]? with
   | none=>(0,0,false)
   | some d=>if zhn Y3 d.toNat < 0 then (0,0,false) else (d.toNat,2,true))
  else (c.toNat,1,!(c.toNat == 37) && !(c.toNat == 95))
theorem JT {p:ByteArray} {i:Nat} (h:i < p.size):∃ c,p[i]?=some c:=⟨p[i],getElem?_pos p i h⟩
theorem WM (p:ByteArray) (h:0 < p.size):Good Tryz.prog 204 [cS p] [] (.tup [.c (.int .u8 (qN p).1),cI (qN p).2.1,cB (qN p).2.2]) []:=by
 obtain ⟨c,hc⟩:=JT h
 refine Good.zg TT 4000 Tryz.func204 rfl rfl ?_
 unfold Tryz.f204
 simp only [go_sem,go_sem_proc]
 have f1:(((c.toNat:Nat):Int) != 37) = !(c.toNat == 37):=by rw [Bool.eq_iff_iff];simp;omega
 have f2:(((c.toNat:Nat):Int) != 95) = !(c.toNat == 95):=by rw [Bool.eq_iff_iff];simp;omega
 have f3:(((c.toNat:Nat):Int) == 92)=(c.toNat == 92):=by rw [Bool.eq_iff_iff];simp;omega
 refine Dr.of TT (by kernel_rfl) [] trivial ?_
 unfold qN
 rw [hc]
 cases g1:(c.toNat == 37)
 ·simp only [go_sem,hc,f1,f2,g1,go_sem_proc]
  refine jy.of TT 4000 (qn rfl) ?_
  by_cases g3:c.toNat=92
  ·have g3':(c.toNat == 92)=true:=by simp [g3]
   have n92:((((92:Nat):Int)) == 92)=true:=rfl
   simp only [go_sem,f3,g3',g3,n92,go_sem_proc]
   rcases Nat.lt_or_ge 1 p.size with h1 | h1
   ·obtain ⟨d,hd⟩:=JT h1
    have hs1:((p.size:Int) == 1)=false:=by simp;omega
    rw [hd]
    by_cases hx:zhn Y3 d.toNat < 0
    ·simp only [go_sem,hs1,hd,go_sem_proc]
     refine Cl.pure TT 4000 (strings_IndexByte Y3 d.toNat) rfl rfl ?_
     simp only [go_sem,hx,hd,go_sem_proc]
    ·simp only [go_sem,hs1,hd,go_sem_proc]
     refine Cl.pure TT 4000 (strings_IndexByte Y3 d.toNat) rfl rfl ?_
     simp only [go_sem,hx,hd,go_sem_proc]
   ·have hs1:((p.size:Int) == 1)=true:=by simp;omega
    have hd:p[1]?=none:=getElem?_neg p 1 (by omega)
    rw [hd]
    simp only [go_sem,hs1,go_sem_proc]
  ·have g3':(c.toNat == 92)=false:=by simp [g3]
   simp only [go_sem,f3,g3',g3,g1,go_sem_proc]
 ·simp only [go_sem,hc,f1,f2,g1,go_sem_proc]
  refine jy.of TT 4000 (qn rfl) ?_
  have g3:¬ c.toNat=92:=by have:=eq_of_beq g1;omega
  have g3':(c.toNat == 92)=false:=by simp [g3]
  simp only [go_sem,f3,g3',g3,g1,go_sem_proc]
theorem JK {p:ByteArray} (h:0 < p.size):(qN p).2.1=0 ∨ (1 ≤ (qN p).2.1 ∧ (qN p).2.1 ≤ p.size):=by
 obtain ⟨c,hc⟩:=JT h
 unfold qN
 rw [hc]
 simp only []
 split
 ·cases hd:p[1]? with
  | none=>exact .inl rfl
  | some d =>
   have h1:1 < p.size:=by
    rcases Nat.lt_or_ge 1 p.size with h1 | h1
    ·exact h1
    ·rw [getElem?_neg p 1 (by omega)] at hd;cases hd
   simp only []
   split
   ·exact .inl rfl
   ·exact .inr ⟨by simp,by simp;omega⟩
 ·exact .inr ⟨by simp,by simp;omega⟩
def jY (p:ByteArray):ByteArray:=p.extract (qN p).2.1.toNat p.size
theorem jg {p:ByteArray} (h:0 < p.size) (h2:(qN p).2.1 ≠ 0):(jY p).size < p.size:=by
 have:=JK h
 unfold jY
 rw [ByteArray.size_extract]
 omega
def xz (p:ByteArray):Int:=if h:0 < p.size then (if h2:(qN p).2.1=0 then 40 else xz (jY p)) else 0
 termination_by p.size
 decreasing_by exact jg h h2
theorem zca (p:ByteArray):Good Tryz.prog 203 [cS p] [] (cI (xz p)) []:=by
 refine Good.zg TT 4000 Tryz.func203 rfl rfl ?_
 unfold Tryz.f203
 simp only [go_sem,go_sem_proc]
 refine Lp.at TT 4000 0 (Nat.le_of_ble_eq_true rfl) [true,false,true,true,true,true,true,true,true,true,true,true,true,true,true,true,true,true,true] (fun q:ByteArray=>q.size) (fun q=>xz q=xz p) (fun q=>[(0,cS q)]) (fun _=>[]) (p) (rfl) ?_ ?_
 ·simp only [go_sem,go_sem_proc]
 ·rintro q i1
  rw [xz] at i1
  rcases Nat.lt_or_ge 0 q.size with h | h
  ·rw [dif_pos h] at i1
   have hne:(q.toList == (⟨#[]⟩:ByteArray).toList)=false:=by
    rw [Go.ByteArray.toList_eq,Go.ByteArray.toList_eq]
    have:q.data.toList ≠ []:=fun e=>by
     have:q.size=q.data.toList.length:=rfl
     rw [e,List.length_nil] at this;omega
    simpa using this
   simp only [go_sem,hne,go_sem_proc]
   refine Cl.pure TT 4000 (WM q h) rfl rfl ?_
   have hn:=JK h
   by_cases h0:(qN q).2.1=0
   ·rw [dif_pos h0] at i1
    have h0':((qN q).2.1 == 0)=true:=by simp [h0]
    simp only [go_sem,h0',go_sem_proc]
    exact Le.of_eq (congrArg cI i1)
   ·rw [dif_neg h0] at i1
    have h0':((qN q).2.1 == 0)=false:=by simp [h0]
    simp only [go_sem,h0',go_sem_proc]
    exact ⟨by omega,jY q,jg h h0,i1,zq.of_eq rfl⟩
  ·rw [dif_neg (by omega)] at i1
   have hq:q=⟨#[]⟩:=ByteArray.ext (by (have:q.data.size=0:=by have:q.size=q.data.size:=rfl;omega);exact Array.eq_empty_of_size_eq_zero this)
   subst hq
   simp only [go_sem,go_sem_proc]
   exact Le.of_eq (congrArg cI i1)
def vP (s:ByteArray) (a:Nat) (p:ByteArray):Bool:=match s[a]? with
 | some c=>!(qN p).2.2 || ((c.toNat:Int) == (qN p).1)
 | none=>false
def KT (s p back:ByteArray) (from_:Int) (at_:Nat):Bool:=
 if hf:(at_:Int) < from_ then false
 else if hp:0 < p.size then
  if h0:(qN p).2.1=0 then false
  else if (qN p).2.2=false ∧ (qN p).1=37 then KT s (jY p) (jY p) at_ at_
  else if vP s at_ p=true then KT s (jY p) back from_ (at_ + 1)
  else if hb:from_ < 0 ∨ (s.size:Int) ≤ from_ then false else KT s back back (from_ + 1) (from_ + 1).toNat
 else if at_=s.size then true
 else if hb:from_ < 0 ∨ (s.size:Int) ≤ from_ then false else KT s back back (from_ + 1) (from_ + 1).toNat
 termination_by (((s.size:Int) - from_).toNat,p.size)
 decreasing_by
  ·have:=jg hp h0
   rcases Nat.lt_or_ge (((s.size:Int) - at_).toNat) (((s.size:Int) - from_).toNat) with h | h
   ·exact Prod.Lex.left _ _ h
   ·have e:((s.size:Int) - at_).toNat=((s.size:Int) - from_).toNat:=by omega
    rw [e];exact Prod.Lex.right _ this
  ·exact Prod.Lex.right _ (jg hp h0)
  ·exact Prod.Lex.left _ _ (by omega)
  ·exact Prod.Lex.left _ _ (by omega)
def Ze (s p:ByteArray):Bool × Int:=if xz p=0 then (KT s p ⟨#[]⟩ (-1) 0,0) else (false,xz p)
structure zh7 (s p:ByteArray) (q b:ByteArray) (f:Int) (a:Nat):Prop where
 from0:-1 ≤ f
 le:f ≤ a
 top:a ≤ s.size
 ok:xz q=0
 okb:0 ≤ f → xz b=0
 lq:q.size ≤ p.size
 lb:b.size ≤ p.size
 go:KT s q b f a=KT s p ⟨#[]⟩ (-1) 0
theorem zh7.start {s p:ByteArray} (hc:xz p=0):zh7 s p p ⟨#[]⟩ (-1) 0:=⟨by omega,by omega,by omega,hc,fun h=>absurd h (by omega),Nat.le_refl _,Nat.zero_le _,rfl⟩
theorem Wo {X Y P q r:Nat} (h:Y ≤ X) (h2:r < q):Y * (P + 1) + r < X * (P + 1) + q:=by
 have:=Nat.mul_le_mul_right (P + 1) h
 omega
theorem QI {X Y P b q:Nat} (h:Y + 1=X) (hb:b ≤ P):Y * (P + 1) + b < X * (P + 1) + q:=by
 subst h
 rw [Nat.add_mul,Nat.one_mul]
 omega
theorem zmr {q:ByteArray} (h:0 < q.size):(q.toList == (⟨#[]⟩:ByteArray).toList)=false:=by
 rw [Go.ByteArray.toList_eq,Go.ByteArray.toList_eq]
 have:q.data.toList ≠ []:=fun e=>by
  have:q.size=q.data.toList.length:=rfl
  rw [e,List.length_nil] at this;omega
 simpa using this
theorem zet {q:ByteArray} (h:¬ 0 < q.size):q=⟨#[]⟩:=ByteArray.ext (by
 have:q.size=q.data.size:=rfl
 exact Array.eq_empty_of_size_eq_zero (by omega))
theorem zgx (s p:ByteArray) (hs:s.size ≤ 1000000000):Good Tryz.prog 179 [cS s,cS p] [] (.tup [cB (Ze s p).1,cI (Ze s p).2]) []:=by
 refine Good.zg TT 4000 Tryz.func179 rfl rfl ?_
 unfold Tryz.f179
 simp only [go_sem,go_sem_proc]
 refine Cl.pure TT 4000 (zca p) rfl rfl ?_
 unfold Ze
 by_cases hc:xz p=0
 ·have hc':(xz p != 0)=false:=by simp [hc]
  simp only [go_sem,hc',hc,go_sem_proc]
  refine Lp.at TT 4000 0 (Nat.le_of_ble_eq_true rfl) [false,false,false,false,true,true,false,true,true,true,true,true,true,true,false,false,false,false,false,false,true,true,true,true,true,true,true,true,true,true,true,true,true,true,true,true,true,true,true,true,true,true,true,true,true,true,true,true,true,true,true,true,true,true,true,true,true,true,true,true,true,true,true,true,true,true,true,true,true,true,true,true,true,true,true] (fun x:ByteArray × ByteArray × Int × Nat=>((s.size:Int) - x.2.2.1).toNat * (p.size + 1) + x.1.size) (fun x=>zh7 s p x.1 x.2.1 x.2.2.1 x.2.2.2) (fun x=>[(7,cS x.1),(8,cS x.2.1),(9,cI x.2.2.1),(10,cI x.2.2.2)]) (fun _=>[]) ((p,⟨#[]⟩,-1,0)) (zh7.start hc) ?_ ?_
  ·simp only [go_sem,go_sem_proc]
  ·rintro ⟨q,b,f,a⟩ I
   simp only at I
   obtain ⟨i1,i2,i3,i4,i5,i6,i7,i8⟩:=I
   have hwa:=zh (j:=a) (by omega)
   rw [KT,dif_neg (by omega)] at i8
   by_cases h:0 < q.size
   ·have hne:=zmr h
    rw [dif_pos h] at i8
    rw [xz,dif_pos h] at i4
    have hn:=JK h
    by_cases h0:(qN q).2.1=0
    ·rw [dif_pos h0] at i4;cases i4
    rw [dif_neg h0] at i4 i8
    have ht:=jg h h0
    have hnn:(0 ≤ (qN q).2.1 ∧ (qN q).2.1 ≤ (q.size:Int)):=by omega
    have hte:q.extract (qN q).2.1.toNat q.size=jY q:=rfl
    simp only [go_sem,hne,go_sem_proc]
    refine Cl.pure TT 4000 (WM q h) rfl rfl ?_
    rcases Bool.eq_false_or_eq_true (!(qN q).2.2) with hpl | hpl <;> simp only [Bool.not_eq_true',Bool.not_eq_false'] at hpl
    ·by_cases h37:(qN q).1=37
     ·have h37':((qN q).1 == 37)=true:=by simp [h37]
      rw [if_pos ⟨hpl,h37⟩] at i8
      simp only [go_sem,hpl,h37',hnn,hte,go_sem_proc]
      exact ⟨(jY q,jY q,(a:Int),a),Wo (by simp only;omega) ht,⟨by simp only;omega,by simp only;omega,i3,i4,fun _=>i4,Nat.le_trans (Nat.le_of_lt ht) i6,Nat.le_trans (Nat.le_of_lt ht) i6,i8⟩,zq.of_eq rfl,zq.of_eq rfl,zq.of_eq rfl,zq.of_eq rfl⟩
     ·have h37':((qN q).1 == 37)=false:=by simp [h37]
      rw [if_neg (fun h=>h37 h.2)] at i8
      by_cases ha:a < s.size
      ·obtain ⟨d,hd⟩:=JT ha
       have hL:vP s a q=true:=by unfold vP;rw [hd,hpl];rfl
       rw [if_pos hL] at i8
       simp only [go_sem,hpl,h37',ha,hnn,hte,go_sem_proc]
       exact ⟨(jY q,b,f,a + 1),Wo (Nat.le_refl _) ht,⟨i1,by simp only;omega,by simp only;omega,i4,i5,Nat.le_trans (Nat.le_of_lt ht) i6,i7,i8⟩,zq.of_eq rfl,zq.of_eq rfl,zq.of_eq rfl,zq.of_eq (congrArg cI hwa)⟩
      ·have hd:s[a]?=none:=getElem?_neg s a (by omega)
       have hL:¬ vP s a q=true:=by unfold vP;rw [hd];simp
       rw [if_neg hL] at i8
       simp only [go_sem,hpl,h37',ha,go_sem_proc]
       by_cases f0:f < 0
       ·have f0':decide (f < 0)=true:=decide_eq_true f0
        rw [dif_pos (.inl f0)] at i8
        simp only [go_sem,f0',f0,go_sem_proc]
        exact Le.of_eq (congrArg (fun x=>AV.tup [cB x,cI 0]) i8)
       ·have f0':decide (f < 0)=false:=decide_eq_false f0
        by_cases f1:f=s.size
        ·have f1':(f == (s.size:Int))=true:=by simp [f1]
         rw [dif_pos (.inr (by omega))] at i8
         simp only [go_sem,f0',f0,f1',go_sem_proc]
         exact Le.of_eq (congrArg (fun x=>AV.tup [cB x,cI 0]) i8)
        ·have f1':(f == (s.size:Int))=false:=by simp [f1]
         rw [dif_neg (by omega)] at i8
         have hw:IntKind.wrap .i64 (f + 1)=f + 1:=qd (by omega) (by omega)
         simp only [go_sem,f0',f0,f1',hw,go_sem_proc]
         exact ⟨(b,b,f + 1,(f + 1).toNat),QI (by simp only;omega) i7,⟨by simp only;omega,by simp only;omega,by simp only;omega,i5 (by omega),fun _=>i5 (by omega),i7,i7,i8⟩,zq.of_eq rfl,zq.of_eq rfl,zq.of_eq rfl,zq.of_eq (congrArg cI (by simp only;omega))⟩
    ·rw [if_neg (fun h=>by rw [hpl] at h;cases h.1)] at i8
     by_cases ha:a < s.size
     ·obtain ⟨d,hd⟩:=JT ha
      rcases Bool.eq_false_or_eq_true (!((d.toNat:Int) == (qN q).1)) with hdc | hdc <;> simp only [Bool.not_eq_true',Bool.not_eq_false'] at hdc
      ·have hL:¬ vP s a q=true:=by unfold vP;rw [hd,hpl];simp [hdc]
       rw [if_neg hL] at i8
       simp only [go_sem,hpl,ha,hd,hdc,go_sem_proc]
       by_cases f0:f < 0
       ·have f0':decide (f < 0)=true:=decide_eq_true f0
        rw [dif_pos (.inl f0)] at i8
        simp only [go_sem,f0',f0,go_sem_proc]
        exact Le.of_eq (congrArg (fun x=>AV.tup [cB x,cI 0]) i8)
       ·have f0':decide (f < 0)=false:=decide_eq_false f0
        by_cases f1:f=s.size
        ·have f1':(f == (s.size:Int))=true:=by simp [f1]
         rw [dif_pos (.inr (by omega))] at i8
         simp only [go_sem,f0',f0,f1',go_sem_proc]
         exact Le.of_eq (congrArg (fun x=>AV.tup [cB x,cI 0]) i8)
        ·have f1':(f == (s.size:Int))=false:=by simp [f1]
         rw [dif_neg (by omega)] at i8
         have hw:IntKind.wrap .i64 (f + 1)=f + 1:=qd (by omega) (by omega)
         simp only [go_sem,f0',f0,f1',hw,go_sem_proc]
         exact ⟨(b,b,f + 1,(f + 1).toNat),QI (by simp only;omega) i7,⟨by simp only;omega,by simp only;omega,by simp only;omega,i5 (by omega),fun _=>i5 (by omega),i7,i7,i8⟩,zq.of_eq rfl,zq.of_eq rfl,zq.of_eq rfl,zq.of_eq (congrArg cI (by simp only;omega))⟩
      ·have hL:vP s a q=true:=by unfold vP;rw [hd,hpl];simp [hdc]
       rw [if_pos hL] at i8
       simp only [go_sem,hpl,ha,hd,hdc,hnn,hte,go_sem_proc]
       exact ⟨(jY q,b,f,a + 1),Wo (Nat.le_refl _) ht,⟨i1,by simp only;omega,by simp only;omega,i4,i5,Nat.le_trans (Nat.le_of_lt ht) i6,i7,i8⟩,zq.of_eq rfl,zq.of_eq rfl,zq.of_eq rfl,zq.of_eq (congrArg cI hwa)⟩
     ·have hd:s[a]?=none:=getElem?_neg s a (by omega)
      have hL:¬ vP s a q=true:=by unfold vP;rw [hd];simp
      rw [if_neg hL] at i8
      simp only [go_sem,hpl,ha,go_sem_proc]
      by_cases f0:f < 0
      ·have f0':decide (f < 0)=true:=decide_eq_true f0
       rw [dif_pos (.inl f0)] at i8
       simp only [go_sem,f0',f0,go_sem_proc]
       exact Le.of_eq (congrArg (fun x=>AV.tup [cB x,cI 0]) i8)
      ·have f0':decide (f < 0)=false:=decide_eq_false f0
       by_cases f1:f=s.size
       ·have f1':(f == (s.size:Int))=true:=by simp [f1]
        rw [dif_pos (.inr (by omega))] at i8
        simp only [go_sem,f0',f0,f1',go_sem_proc]
        exact Le.of_eq (congrArg (fun x=>AV.tup [cB x,cI 0]) i8)
       ·have f1':(f == (s.size:Int))=false:=by simp [f1]
        rw [dif_neg (by omega)] at i8
        have hw:IntKind.wrap .i64 (f + 1)=f + 1:=qd (by omega) (by omega)
        simp only [go_sem,f0',f0,f1',hw,go_sem_proc]
        exact ⟨(b,b,f + 1,(f + 1).toNat),QI (by simp only;omega) i7,⟨by simp only;omega,by simp only;omega,by simp only;omega,i5 (by omega),fun _=>i5 (by omega),i7,i7,i8⟩,zq.of_eq rfl,zq.of_eq rfl,zq.of_eq rfl,zq.of_eq (congrArg cI (by simp only;omega))⟩
   ·have hq:=zet h
    subst hq
    rw [dif_neg h] at i8
    by_cases ha:a=s.size
    ·have ha':((a:Int) == (s.size:Int))=true:=by simp [ha]
     rw [if_pos ha] at i8
     simp only [go_sem,ha',go_sem_proc]
     exact Le.of_eq (congrArg (fun x=>AV.tup [cB x,cI 0]) i8)
    ·have ha':((a:Int) == (s.size:Int))=false:=by simp;omega
     rw [if_neg ha] at i8
     simp only [go_sem,ha',go_sem_proc]
     by_cases f0:f < 0
     ·have f0':decide (f < 0)=true:=decide_eq_true f0
      rw [dif_pos (.inl f0)] at i8
      simp only [go_sem,f0',f0,go_sem_proc]
      exact Le.of_eq (congrArg (fun x=>AV.tup [cB x,cI 0]) i8)
     ·have f0':decide (f < 0)=false:=decide_eq_false f0
      by_cases f1:f=s.size
      ·have f1':(f == (s.size:Int))=true:=by simp [f1]
       rw [dif_pos (.inr (by omega))] at i8
       simp only [go_sem,f0',f0,f1',go_sem_proc]
       exact Le.of_eq (congrArg (fun x=>AV.tup [cB x,cI 0]) i8)
      ·have f1':(f == (s.size:Int))=false:=by simp [f1]
       rw [dif_neg (by omega)] at i8
       have hw:IntKind.wrap .i64 (f + 1)=f + 1:=qd (by omega) (by omega)
       simp only [go_sem,f0',f0,f1',hw,go_sem_proc]
       exact ⟨(b,b,f + 1,(f + 1).toNat),QI (by simp only;omega) i7,⟨by simp only;omega,by simp only;omega,by simp only;omega,i5 (by omega),fun _=>i5 (by omega),i7,i7,i8⟩,zq.of_eq rfl,zq.of_eq rfl,zq.of_eq rfl,zq.of_eq (congrArg cI (by simp only;omega))⟩
 ·have hc':(xz p != 0)=true:=by simp [hc]
  simp only [go_sem,hc',hc,go_sem_proc]
end Go.Ev
end
