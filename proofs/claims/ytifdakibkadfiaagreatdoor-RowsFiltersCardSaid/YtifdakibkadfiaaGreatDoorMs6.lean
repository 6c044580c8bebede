import Derived.Test.YtifdakibkadfiaaGreatDoorMs3
import Derived.Test.YtifdakibkadfiaaGreatDoorMs1
import Derived.Test.YtifdakibkadfiaaGreatDoorMs2
import Derived.Test.YtifdakibkadfiaaGreatDoorMr2
import Derived.Test.YtifdakibkadfiaaGreatDoorMs5
import Derived.Test.YtifdakibkadfiaaGreatDoorMe6
set_option linter.all false
set_option maxRecDepth 100000
set_option maxHeartbeats 8000000
section
open Go Go.Proofs Go.RowKit
namespace Go.Ev
def oneV (op:ByteArray) (x:Val):Val × Int:=
 if op.toList == (⟨#[110,101,103]⟩:ByteArray).toList then negV x
 else if op.toList == (⟨#[110,111,116]⟩:ByteArray).toList then notS x
 else if op.toList == (⟨#[105,115,110,117,108,108]⟩:ByteArray).toList then (truthV (x.k == 0),0)
 else if op.toList == (⟨#[110,111,116,110,117,108,108]⟩:ByteArray).toList then (truthV (!(x.k == 0)),0)
 else (zeroV,1)
def twoV (op:ByteArray) (a b:Val):Val × Int:=
 if op.toList == (⟨#[97,110,100]⟩:ByteArray).toList then lgS 0 [a,b]
 else if op.toList == (⟨#[111,114]⟩:ByteArray).toList then lgS 1 [a,b]
 else if op.toList == (⟨#[124,124]⟩:ByteArray).toList then catV a b
 else if inB7 op relL then relS op a b
 else if op.toList == (⟨#[108,105,107,101]⟩:ByteArray).toList then likenS a b
 else arithV op a b
theorem r10_one (op:ByteArray) (x:Val) (hx:I64 x.i):Good Tryz.prog 80 [cS op,x.av] [] (vals (oneV op x).1 (oneV op x).2) []:=by
 have hN:=r03_Neg x hx
 have hO:=r02_Not x
 have hne:(x.k != 0) = !(x.k == 0):=rfl
 refine Good.of_vmQ TT 4000 Tryz.func80 rfl rfl ?_
 unfold Tryz.f80
 unfold oneV
 simp only [go_sem,go_sem_proc]
 cases a0:(op.toList == (⟨#[110,101,103]⟩:ByteArray).toList)
 case true =>
  simp only [go_sem,a0,go_sem_proc]
  refine Cl.pure TT 4000 (hN) rfl rfl ?_
  simp only [go_sem,go_sem_proc]
  exact Le.refl _
 cases a1:(op.toList == (⟨#[110,111,116]⟩:ByteArray).toList)
 case true =>
  simp only [go_sem,a0,a1,go_sem_proc]
  refine Cl.pure TT 4000 (hO) rfl rfl ?_
  simp only [go_sem,go_sem_proc]
  exact Le.refl _
 cases a2:(op.toList == (⟨#[105,115,110,117,108,108]⟩:ByteArray).toList)
 case true =>
  simp only [go_sem,a0,a1,a2,go_sem_proc]
  refine Cl.pure TT 4000 (ref_Bool1 (x.k == 0)) rfl rfl ?_
  simp only [go_sem,go_sem_proc]
  exact Le.refl _
 cases a3:(op.toList == (⟨#[110,111,116,110,117,108,108]⟩:ByteArray).toList)
 case true =>
  simp only [go_sem,a0,a1,a2,a3,hne,go_sem_proc]
  refine Cl.pure TT 4000 (ref_Bool1 (!(x.k == 0))) rfl rfl ?_
  simp only [go_sem,go_sem_proc]
  exact Le.refl _
 simp only [go_sem,a0,a1,a2,a3,go_sem_proc]
 exact Le.refl _
theorem r10_two (op:ByteArray) (a b:Val) (ha:I64 a.i) (hb:I64 b.i) (hs:a.s.size ≤ 10000000) (ht:b.s.size ≤ 10000000):Good Tryz.prog 81 [cS op,a.av,b.av] [] (vals (twoV op a b).1 (twoV op a b).2) []:=by
 have h1:=r02_And [a,b] (by simp)
 have h2:=r02_Or [a,b] (by simp)
 have h3:=r03_Join a b (by omega)
 have h4:=r07_Rels op
 have h5:=r02_Rel op a b
 have h6:=r03_Arith op a b ha hb
 have h7:=r04_Like a.s b.s hs (by omega)
 unfold twoV likenS
 generalize lgS 0 [a,b]=R1 at h1
 generalize lgS 1 [a,b]=R2 at h2
 generalize catV a b=R3 at h3
 generalize relS op a b=R5 at h5
 generalize arithV op a b=R6 at h6
 generalize likeS a.s b.s=R7 at h7
 refine Good.of_vmQ TT 4000 Tryz.func81 rfl rfl ?_
 unfold Tryz.f81
 simp only [go_sem,go_sem_proc]
 cases a0:(op.toList == (⟨#[97,110,100]⟩:ByteArray).toList)
 case true =>
  simp only [go_sem,a0,go_sem_proc]
  refine Cl.pure TT 4000 h1 rfl rfl ?_
  simp only [go_sem,go_sem_proc]
  exact Le.refl _
 cases a1:(op.toList == (⟨#[111,114]⟩:ByteArray).toList)
 case true =>
  simp only [go_sem,a0,a1,go_sem_proc]
  refine Cl.pure TT 4000 h2 rfl rfl ?_
  simp only [go_sem,go_sem_proc]
  exact Le.refl _
 cases a2:(op.toList == (⟨#[124,124]⟩:ByteArray).toList)
 case true =>
  simp only [go_sem,a0,a1,a2,go_sem_proc]
  refine Cl.pure TT 4000 h3 rfl rfl ?_
  simp only [go_sem,go_sem_proc]
  exact Le.refl _
 simp only [go_sem,a0,a1,a2,go_sem_proc]
 refine Cl.pure TT 4000 h4 rfl rfl ?_
 cases a3:inB7 op relL
 case true =>
  simp only [go_sem,a3,go_sem_proc]
  refine Cl.pure TT 4000 h5 rfl rfl ?_
  simp only [go_sem,go_sem_proc]
  exact Le.refl _
 simp only [go_sem,a3,go_sem_proc]
 cases a4:(op.toList == (⟨#[108,105,107,101]⟩:ByteArray).toList)
 case false =>
  simp only [go_sem,a4,go_sem_proc]
  refine Cl.pure TT 4000 h6 rfl rfl ?_
  simp only [go_sem,go_sem_proc]
  exact Le.refl _
 by_cases n0:a.k=0
 ·have n0':(a.k == 0)=true:=by simp [n0]
  simp only [go_sem,a4,n0',n0,go_sem_proc]
  exact Le.refl _
 have n0':(a.k == 0)=false:=by simp [n0]
 by_cases n1:b.k=0
 ·have n1':(b.k == 0)=true:=by simp [n1]
  simp only [go_sem,a4,n0',n0,n1',n1,go_sem_proc]
  exact Le.refl _
 have n1':(b.k == 0)=false:=by simp [n1]
 by_cases t0:a.k=3
 case neg =>
  have t0':(a.k != 3)=true:=by simp [t0]
  simp only [go_sem,a4,n0',n0,n1',n1,t0',t0,go_sem_proc]
  exact Le.refl _
 have t0':(a.k != 3)=false:=by simp [t0]
 by_cases t1:b.k=3
 case neg =>
  have t1':(b.k != 3)=true:=by simp [t1]
  simp only [go_sem,a4,n0',n0,n1',n1,t0',t1',t1,go_sem_proc]
  exact Le.refl _
 have t1':(b.k != 3)=false:=by simp [t1]
 simp only [go_sem,a4,n0',n0,n1',n1,t0',t0,t1',t1,go_sem_proc]
 refine Cl.pure TT 4000 h7 rfl rfl ?_
 by_cases e0:R7.2=0
 ·have e0':(R7.2 != 0)=false:=by simp [e0]
  simp only [go_sem,e0',e0,go_sem_proc]
  refine Cl.pure TT 4000 (ref_Bool1 R7.1) rfl rfl ?_
  simp only [go_sem,go_sem_proc]
  exact Le.refl _
 ·have e0':(R7.2 != 0)=true:=by simp [e0]
  simp only [go_sem,e0',e0,go_sem_proc]
  exact Le.refl _
end Go.Ev
end
section
open Go Go.Proofs Go.RowKit
namespace Go.Ev
open Go.Proofs.YtifdakibkadfiaaGreatDoor (GV Rets VS SomeMax Fine)
abbrev RefR (r:List Val) (e:Expr) (v:Val) (f:Int):Prop:=Good Tryz.prog 55 [e.av,.c (rowC r)] [] (vals v f) []
theorem Ref_err (r:List Val) (e:Expr) (hb:e.l.length ≤ 1000) (vs:List Val) (hn:vs.length=e.l.length) (k:Nat) (hk:k < e.l.length)
  (hp:∀ (j:Nat) x v,j < k → e.l[j]?=some x → vs[j]?=some v → RefR r x v 0) {x:Expr} {w:Val} {f:Int} (hx:e.l[k]?=some x) (hf:f ≠ 0) (he:RefR r x w f):RefR r e zeroV f:=by
 have hf':(f != 0)=true:=by simp [hf]
 refine Good.of_vmQ TT 4000 Tryz.func55 rfl rfl ?_
 unfold Tryz.f55
 simp only [go_sem,go_sem_proc]
 refine Lp.atP TT 4000 2 (Nat.le_of_ble_eq_true rfl) [false,false,false,false,false,true,true,false,true,true,true,false,false,false,false,false,false,true,true,true,true,true,true,true,true,true,true,true,true,true,true,true,true,true,true,true] (fun j:Nat=>e.l.length - j) (fun j=>j ≤ k) (fun j=>[(6,.sl 2 0 j),(17,cI j)]) (fun j=>[.rows 3 26 ((vs.take j).map Val.cs)]) [2] (0) (Nat.zero_le _) ?_ ?_
 ·simp only [go_sem,go_sem_proc]
  first | done | rfl
 ·rintro j i1
  have hlt:j < e.l.length:=by omega
  rcases Nat.lt_or_ge j k with hj | hj
  ·have hp:=fun (i:Nat) x v (h1:e.l[i]?=some x) (h2:vs[i]?=some v) (h3:i < k)=>hp i x v h3 h1 h2
   obtain ⟨x,hx,hm,ht,hd⟩:=getS hlt
   have hw:=wrap_succ (j:=j) (by omega)
   have hv:=List.getElem?_eq_getElem (l:=vs) (i:=j) (by omega)
   generalize vs[j]'(by omega)=v at hv
   have hmin:min j vs.length=j:=Nat.min_eq_left (by omega)
   have hall:((vs.take j).map Val.cs).all (fun y=>y.length == 3)=true:=List.all_eq_true.2 fun y hy=>by
    obtain ⟨z,_,rfl⟩:=List.mem_map.1 hy
    rfl
   have hnext:List.map Val.cs (vs.take j) ++ [[.int .i64 v.k,.int .i64 v.i,.str v.s]]=List.map Val.cs (vs.take (j + 1)):=by
    obtain ⟨g1,g2⟩:=List.getElem?_eq_some_iff.1 hv
    rw [← List.take_append_getElem g1,List.map_append,g2];rfl
   simp only [go_sem,hlt,hx,go_sem_proc]
   refine Cl.pure TT 4000 (hp j x v hx hv hj) rfl rfl ?_
   simp only [go_sem,hw,hmin,hall,List.length_map,List.length_take,Nat.zero_add,hnext,go_sem_proc]
   exact ⟨by omega,j + 1,[6],by omega,by omega,rfl,⟨Fit1.of_eq rfl,Fit1.of_eq rfl⟩,rfl⟩
  ·have:j=k:=by omega
   subst this
   simp only [go_sem,hlt,hx,go_sem_proc]
   refine Cl.pure TT 4000 he rfl rfl ?_
   simp only [go_sem,hf',go_sem_proc]
   exact Le.refl _
theorem Ref_lit (r:List Val) (e:Expr) (h:(e.op.toList == sLit.toList)=true) (hl:e.l=[]):RefR r e e.v 0:=by
 have vs:List Val:=[]
 refine Good.of_vmQ TT 4000 Tryz.func55 rfl rfl ?_
 unfold Tryz.f55
 simp only [go_sem,hl,go_sem_proc]
 refine Lp.atP TT 4000 2 (Nat.le_of_ble_eq_true rfl) [false,false,false,false,false,true,true,false,true,true,true,false,false,false,false,false,false,true,true,true,true,true,true,true,true,true,true,true,true,true,true,true,true,true,true,true] (fun _:Unit=>0) (fun _=>True) (fun _=>[(6,.sl 2 0 0),(17,cI 0)]) (fun _=>[.rows 3 26 []]) [2] (()) (trivial) ?_ ?_
 ·simp only [go_sem,go_sem_proc]
  first | done | rfl
 ·rintro _ _
  simp only [go_sem,h,go_sem_proc]
  exact Le.refl _
theorem Ref_at (r:List Val) (e:Expr) (h:(e.op.toList == sLit.toList)=false) (h2:(e.op.toList == sAt.toList)=true) (hl:e.l=[]) {x:Val} {j:Nat} (hj:e.v.i=j) (hx:r[j]?=some x):RefR r e x 0:=by
 have hlt:=(List.getElem?_eq_some_iff.1 hx).1
 have h3:¬ ((j:Int) < 0):=by omega
 have h4:¬ ((j:Int) ≥ (r.length:Int)):=by omega
 refine Good.of_vmQ TT 4000 Tryz.func55 rfl rfl ?_
 unfold Tryz.f55
 simp only [go_sem,hl,go_sem_proc]
 refine Lp.atP TT 4000 2 (Nat.le_of_ble_eq_true rfl) [false,false,false,false,false,true,true,false,true,true,true,false,false,false,false,false,false,true,true,true,true,true,true,true,true,true,true,true,true,true,true,true,true,true,true,true] (fun _:Unit=>0) (fun _=>True) (fun _=>[(6,.sl 2 0 0),(17,cI 0)]) (fun _=>[.rows 3 26 []]) [2] (()) (trivial) ?_ ?_
 ·simp only [go_sem,go_sem_proc]
  first | done | rfl
 ·rintro _ _
  simp only [go_sem,h,h2,hj,h3,h4,hx,hlt,go_sem_proc]
  exact Le.refl _
theorem Ref_call (r:List Val) (e:Expr) (h:(e.op.toList == sLit.toList)=false) (h2:(e.op.toList == sAt.toList)=false) (h3:(e.op.toList == sCall.toList)=true) (hb:e.l.length ≤ 1000) (vs:List Val) (hn:vs.length=e.l.length)
  (hp:∀ (j:Nat) x v,e.l[j]?=some x → vs[j]?=some v → RefR r x v 0) {res:Val} {f:Int} (hc:Good Tryz.prog 79 [cS e.name,.c (rowC vs)] [] (vals res f) []):RefR r e res f:=by
 refine Good.of_vmQ TT 4000 Tryz.func55 rfl rfl ?_
 unfold Tryz.f55
 simp only [go_sem,go_sem_proc]
 refine Lp.atP TT 4000 2 (Nat.le_of_ble_eq_true rfl) [false,false,false,false,false,true,true,false,true,true,true,false,false,false,false,false,false,true,true,true,true,true,true,true,true,true,true,true,true,true,true,true,true,true,true,true] (fun j:Nat=>e.l.length - j) (fun j=>j ≤ e.l.length) (fun j=>[(6,.sl 2 0 j),(17,cI j)]) (fun j=>[.rows 3 26 ((vs.take j).map Val.cs)]) [2] (0) (Nat.zero_le _) ?_ ?_
 ·simp only [go_sem,go_sem_proc]
  first | done | rfl
 ·rintro j i1
  rcases Nat.lt_or_ge j e.l.length with hlt | hge
  ·skip
   obtain ⟨x,hx,hm,ht,hd⟩:=getS hlt
   have hw:=wrap_succ (j:=j) (by omega)
   have hv:=List.getElem?_eq_getElem (l:=vs) (i:=j) (by omega)
   generalize vs[j]'(by omega)=v at hv
   have hmin:min j vs.length=j:=Nat.min_eq_left (by omega)
   have hall:((vs.take j).map Val.cs).all (fun y=>y.length == 3)=true:=List.all_eq_true.2 fun y hy=>by
    obtain ⟨z,_,rfl⟩:=List.mem_map.1 hy
    rfl
   have hnext:List.map Val.cs (vs.take j) ++ [[.int .i64 v.k,.int .i64 v.i,.str v.s]]=List.map Val.cs (vs.take (j + 1)):=by
    obtain ⟨g1,g2⟩:=List.getElem?_eq_some_iff.1 hv
    rw [← List.take_append_getElem g1,List.map_append,g2];rfl
   simp only [go_sem,hlt,hx,go_sem_proc]
   refine Cl.pure TT 4000 (hp j x v hx hv) rfl rfl ?_
   simp only [go_sem,hw,hmin,hall,List.length_map,List.length_take,Nat.zero_add,hnext,go_sem_proc]
   exact ⟨by omega,j + 1,[6],by omega,by omega,rfl,⟨Fit1.of_eq rfl,Fit1.of_eq rfl⟩,rfl⟩
  ·have:j=e.l.length:=by omega
   subst this
   have hk:List.take e.l.length vs=vs:=List.take_of_length_le (by omega)
   have hk2:List.take e.l.length (vs.map Val.cs)=vs.map Val.cs:=List.take_of_length_le (by simp [hn])
   simp only [go_sem,Nat.lt_irrefl,h,h2,h3,hk,go_sem_proc]
   refine Cl.pure TT 4000 hc (by simp only [go_sem,hk2,hn,Nat.zero_add,Nat.le_refl,List.length_map,go_sem_proc]) rfl ?_
   simp only [go_sem,go_sem_proc]
   exact Le.refl _
theorem Ref_one (r:List Val) (e:Expr) (h:(e.op.toList == sLit.toList)=false) (h2:(e.op.toList == sAt.toList)=false) (h3:(e.op.toList == sCall.toList)=false) (x1:Val) (hn:e.l.length=1)
  (hp:∀ (j:Nat) x v,e.l[j]?=some x → [x1][j]?=some v → RefR r x v 0) {res:Val} {f:Int} (hc:Good Tryz.prog 80 [cS e.op,x1.av] [] (vals res f) []):RefR r e res f:=by
 obtain ⟨vs,hvs⟩:∃ vs:List Val,vs=[x1]:=⟨_,rfl⟩
 rw [← hvs] at hp
 have hn2:vs.length=e.l.length:=by rw [hvs,hn];rfl
 have hb:e.l.length ≤ 1000:=by omega
 refine Good.of_vmQ TT 4000 Tryz.func55 rfl rfl ?_
 unfold Tryz.f55
 simp only [go_sem,go_sem_proc]
 refine Lp.atP TT 4000 2 (Nat.le_of_ble_eq_true rfl) [false,false,false,false,false,true,true,false,true,true,true,false,false,false,false,false,false,true,true,true,true,true,true,true,true,true,true,true,true,true,true,true,true,true,true,true] (fun j:Nat=>e.l.length - j) (fun j=>j ≤ e.l.length) (fun j=>[(6,.sl 2 0 j),(17,cI j)]) (fun j=>[.rows 3 26 ((vs.take j).map Val.cs)]) [2] (0) (Nat.zero_le _) ?_ ?_
 ·simp only [go_sem,go_sem_proc]
  first | done | rfl
 ·rintro j i1
  rcases Nat.lt_or_ge j e.l.length with hlt | hge
  ·skip
   obtain ⟨x,hx,hm,ht,hd⟩:=getS hlt
   have hw:=wrap_succ (j:=j) (by omega)
   have hv:=List.getElem?_eq_getElem (l:=vs) (i:=j) (by omega)
   generalize vs[j]'(by omega)=v at hv
   have hmin:min j vs.length=j:=Nat.min_eq_left (by omega)
   have hall:((vs.take j).map Val.cs).all (fun y=>y.length == 3)=true:=List.all_eq_true.2 fun y hy=>by
    obtain ⟨z,_,rfl⟩:=List.mem_map.1 hy
    rfl
   have hnext:List.map Val.cs (vs.take j) ++ [[.int .i64 v.k,.int .i64 v.i,.str v.s]]=List.map Val.cs (vs.take (j + 1)):=by
    obtain ⟨g1,g2⟩:=List.getElem?_eq_some_iff.1 hv
    rw [← List.take_append_getElem g1,List.map_append,g2];rfl
   simp only [go_sem,hlt,hx,go_sem_proc]
   refine Cl.pure TT 4000 (hp j x v hx hv) rfl rfl ?_
   simp only [go_sem,hw,hmin,hall,List.length_map,List.length_take,Nat.zero_add,hnext,go_sem_proc]
   exact ⟨by omega,j + 1,[6],by omega,by omega,rfl,⟨Fit1.of_eq rfl,Fit1.of_eq rfl⟩,rfl⟩
  ·have:j=e.l.length:=by omega
   subst this
   have hk:List.take e.l.length vs=vs:=List.take_of_length_le (by omega)
   have g0:(0:Int) < ((1:Nat):Int):=by decide
   have g1:(((1:Nat):Int) > 0):=by decide
   have g2:((1:Int) < ((1:Nat):Int))=(1 < 1):=by simp
   have g3:((2:Int) < ((1:Nat):Int))=(2 < 1):=by simp
   have b1:(((1:Nat):Int) == 1)=(1 == 1):=by decide
   have b2:(((1:Nat):Int) == 2)=(1 == 2):=by decide
   have b3:(((1:Nat):Int) == 3)=(1 == 3):=by decide
   rw [hvs] at hk
   simp only [go_sem,Nat.lt_irrefl,h,h2,h3,hk,hn,hvs,b1,b2,b3,go_sem_proc]
   refine Dr.ofC TT (by kernel_rfl) [(80,[cS e.op,x1.av],vals res f)] ⟨⟨hc,rfl⟩,trivial⟩ ?_
   simp only [go_sem,g0,g2,g3,Nat.reduceLT,Option.map_some,go_sem_proc]
   refine DEnd.of TT 4000 (memOK_of2 (by kernel_rfl)) ?_
   simp only [go_sem,go_sem_proc]
   exact Le.refl _
theorem Ref_two (r:List Val) (e:Expr) (h:(e.op.toList == sLit.toList)=false) (h2:(e.op.toList == sAt.toList)=false) (h3:(e.op.toList == sCall.toList)=false) (hin:(e.op.toList == (⟨#[105,110]⟩:ByteArray).toList)=false) (x1 x2:Val) (hn:e.l.length=2)
  (hp:∀ (j:Nat) x v,e.l[j]?=some x → [x1,x2][j]?=some v → RefR r x v 0) {res:Val} {f:Int} (hc:Good Tryz.prog 81 [cS e.op,x1.av,x2.av] [] (vals res f) []):RefR r e res f:=by
 obtain ⟨vs,hvs⟩:∃ vs:List Val,vs=[x1,x2]:=⟨_,rfl⟩
 rw [← hvs] at hp
 have hn2:vs.length=e.l.length:=by rw [hvs,hn];rfl
 have hb:e.l.length ≤ 1000:=by omega
 refine Good.of_vmQ TT 4000 Tryz.func55 rfl rfl ?_
 unfold Tryz.f55
 simp only [go_sem,go_sem_proc]
 refine Lp.atP TT 4000 2 (Nat.le_of_ble_eq_true rfl) [false,false,false,false,false,true,true,false,true,true,true,false,false,false,false,false,false,true,true,true,true,true,true,true,true,true,true,true,true,true,true,true,true,true,true,true] (fun j:Nat=>e.l.length - j) (fun j=>j ≤ e.l.length) (fun j=>[(6,.sl 2 0 j),(17,cI j)]) (fun j=>[.rows 3 26 ((vs.take j).map Val.cs)]) [2] (0) (Nat.zero_le _) ?_ ?_
 ·simp only [go_sem,go_sem_proc]
  first | done | rfl
 ·rintro j i1
  rcases Nat.lt_or_ge j e.l.length with hlt | hge
  ·skip
   obtain ⟨x,hx,hm,ht,hd⟩:=getS hlt
   have hw:=wrap_succ (j:=j) (by omega)
   have hv:=List.getElem?_eq_getElem (l:=vs) (i:=j) (by omega)
   generalize vs[j]'(by omega)=v at hv
   have hmin:min j vs.length=j:=Nat.min_eq_left (by omega)
   have hall:((vs.take j).map Val.cs).all (fun y=>y.length == 3)=true:=List.all_eq_true.2 fun y hy=>by
    obtain ⟨z,_,rfl⟩:=List.mem_map.1 hy
    rfl
   have hnext:List.map Val.cs (vs.take j) ++ [[.int .i64 v.k,.int .i64 v.i,.str v.s]]=List.map Val.cs (vs.take (j + 1)):=by
    obtain ⟨g1,g2⟩:=List.getElem?_eq_some_iff.1 hv
    rw [← List.take_append_getElem g1,List.map_append,g2];rfl
   simp only [go_sem,hlt,hx,go_sem_proc]
   refine Cl.pure TT 4000 (hp j x v hx hv) rfl rfl ?_
   simp only [go_sem,hw,hmin,hall,List.length_map,List.length_take,Nat.zero_add,hnext,go_sem_proc]
   exact ⟨by omega,j + 1,[6],by omega,by omega,rfl,⟨Fit1.of_eq rfl,Fit1.of_eq rfl⟩,rfl⟩
  ·have:j=e.l.length:=by omega
   subst this
   have hk:List.take e.l.length vs=vs:=List.take_of_length_le (by omega)
   have g0:(0:Int) < ((2:Nat):Int):=by decide
   have g1:(((2:Nat):Int) > 0):=by decide
   have g2:((1:Int) < ((2:Nat):Int))=(1 < 2):=by simp
   have g3:((2:Int) < ((2:Nat):Int))=(2 < 2):=by simp
   have b1:(((2:Nat):Int) == 1)=(2 == 1):=by decide
   have b2:(((2:Nat):Int) == 2)=(2 == 2):=by decide
   have b3:(((2:Nat):Int) == 3)=(2 == 3):=by decide
   rw [hvs] at hk
   simp only [go_sem,Nat.lt_irrefl,h,h2,h3,hk,hn,hvs,b1,b2,b3,go_sem_proc]
   simp only [go_sem,hin,go_sem_proc]
   refine Dr.ofC TT (by kernel_rfl) [(81,[cS e.op,x1.av,x2.av],vals res f)] ⟨⟨hc,rfl⟩,trivial⟩ ?_
   simp only [go_sem,g0,g2,g3,Nat.reduceLT,Option.map_some,go_sem_proc]
   refine DEnd.of TT 4000 (memOK_of2 (by kernel_rfl)) ?_
   simp only [go_sem,go_sem_proc]
   exact Le.refl _
theorem relS_err (op:ByteArray) (a b:Val):(relS op a b).2 ≠ 0 → (relS op a b).1=zeroV:=by
 unfold relS
 split
 ·intro _;rfl
 ·split
  ·intro _;rfl
  ·split
   ·intro _;rfl
   ·split
    ·intro h;exact absurd rfl h
    ·intro _;rfl
theorem Ref_between (r:List Val) (e:Expr) (h:(e.op.toList == sLit.toList)=false) (h2:(e.op.toList == sAt.toList)=false) (h3:(e.op.toList == sCall.toList)=false) (hbt:(e.op.toList == (⟨#[98,101,116,119,101,101,110]⟩:ByteArray).toList)=true) (x1 x2 x3:Val) (hn:e.l.length=3)
  (hp:∀ (j:Nat) x v,e.l[j]?=some x → [x1,x2,x3][j]?=some v → RefR r x v 0):RefR r e (betweenS x1 x2 x3).1 (betweenS x1 x2 x3).2:=by
 have hr1:=r02_Rel ⟨#[62,61]⟩ x1 x2
 have hr2:=r02_Rel ⟨#[60,61]⟩ x1 x3
 have z1:=relS_err ⟨#[62,61]⟩ x1 x2
 have z2:=relS_err ⟨#[60,61]⟩ x1 x3
 unfold betweenS
 generalize relS ⟨#[62,61]⟩ x1 x2=R1 at hr1 z1
 generalize relS ⟨#[60,61]⟩ x1 x3=R2 at hr2 z2
 obtain ⟨vs,hvs⟩:∃ vs:List Val,vs=[x1,x2,x3]:=⟨_,rfl⟩
 rw [← hvs] at hp
 have hn2:vs.length=e.l.length:=by rw [hvs,hn];rfl
 have hb:e.l.length ≤ 1000:=by omega
 refine Good.of_vmQ TT 4000 Tryz.func55 rfl rfl ?_
 unfold Tryz.f55
 simp only [go_sem,go_sem_proc]
 refine Lp.atP TT 4000 2 (Nat.le_of_ble_eq_true rfl) [false,false,false,false,false,true,true,false,true,true,true,false,false,false,false,false,false,true,true,true,true,true,true,true,true,true,true,true,true,true,true,true,true,true,true,true] (fun j:Nat=>e.l.length - j) (fun j=>j ≤ e.l.length) (fun j=>[(6,.sl 2 0 j),(17,cI j)]) (fun j=>[.rows 3 26 ((vs.take j).map Val.cs)]) [2] (0) (Nat.zero_le _) ?_ ?_
 ·simp only [go_sem,go_sem_proc]
  first | done | rfl
 ·rintro j i1
  rcases Nat.lt_or_ge j e.l.length with hlt | hge
  ·skip
   obtain ⟨x,hx,hm,ht,hd⟩:=getS hlt
   have hw:=wrap_succ (j:=j) (by omega)
   have hv:=List.getElem?_eq_getElem (l:=vs) (i:=j) (by omega)
   generalize vs[j]'(by omega)=v at hv
   have hmin:min j vs.length=j:=Nat.min_eq_left (by omega)
   have hall:((vs.take j).map Val.cs).all (fun y=>y.length == 3)=true:=List.all_eq_true.2 fun y hy=>by
    obtain ⟨z,_,rfl⟩:=List.mem_map.1 hy
    rfl
   have hnext:List.map Val.cs (vs.take j) ++ [[.int .i64 v.k,.int .i64 v.i,.str v.s]]=List.map Val.cs (vs.take (j + 1)):=by
    obtain ⟨g1,g2⟩:=List.getElem?_eq_some_iff.1 hv
    rw [← List.take_append_getElem g1,List.map_append,g2];rfl
   simp only [go_sem,hlt,hx,go_sem_proc]
   refine Cl.pure TT 4000 (hp j x v hx hv) rfl rfl ?_
   simp only [go_sem,hw,hmin,hall,List.length_map,List.length_take,Nat.zero_add,hnext,go_sem_proc]
   exact ⟨by omega,j + 1,[6],by omega,by omega,rfl,⟨Fit1.of_eq rfl,Fit1.of_eq rfl⟩,rfl⟩
  ·have:j=e.l.length:=by omega
   subst this
   have hk:List.take e.l.length vs=vs:=List.take_of_length_le (by omega)
   have g0:(0:Int) < ((3:Nat):Int):=by decide
   have g1:(((3:Nat):Int) > 0):=by decide
   have g2:((1:Int) < ((3:Nat):Int))=(1 < 3):=by simp
   have g3:((2:Int) < ((3:Nat):Int))=(2 < 3):=by simp
   have b1:(((3:Nat):Int) == 1)=(3 == 1):=by decide
   have b2:(((3:Nat):Int) == 2)=(3 == 2):=by decide
   have b3:(((3:Nat):Int) == 3)=(3 == 3):=by decide
   rw [hvs] at hk
   simp only [go_sem,Nat.lt_irrefl,h,h2,h3,hk,hn,hvs,b1,b2,b3,go_sem_proc]
   simp only [go_sem,hbt,go_sem_proc]
   refine Dr.ofC TT (by kernel_rfl) [(82,[cS ⟨#[62,61]⟩,x1.av,x2.av],vals R1.1 R1.2)] ⟨⟨hr1,rfl⟩,trivial⟩ ?_
   simp only [go_sem,g0,g2,g3,Nat.reduceLT,Option.map_some,go_sem_proc]
   refine DEnd.of TT 4000 (memOK_of2 (by kernel_rfl)) ?_
   by_cases e1:R1.2=0
   case neg =>
    have e1':(R1.2 != 0)=true:=by simp [e1]
    simp only [go_sem,e1',e1,go_sem_proc]
    rw [z1 e1]
    exact Le.refl _
   have e1':(R1.2 != 0)=false:=by simp [e1]
   simp only [go_sem,e1',e1,go_sem_proc]
   refine Dr.ofC TT (by kernel_rfl) [(82,[cS ⟨#[60,61]⟩,x1.av,x3.av],vals R2.1 R2.2)] ⟨⟨hr2,rfl⟩,trivial⟩ ?_
   simp only [go_sem,g0,g2,g3,Nat.reduceLT,Option.map_some,go_sem_proc]
   refine DEnd.of TT 4000 (memOK_of2 (by kernel_rfl)) ?_
   by_cases e2:R2.2=0
   case neg =>
    have e2':(R2.2 != 0)=true:=by simp [e2]
    simp only [go_sem,e2',e2,go_sem_proc]
    rw [z2 e2]
    exact Le.refl _
   have e2':(R2.2 != 0)=false:=by simp [e2]
   simp only [go_sem,e2',e2,go_sem_proc]
   refine Cl.pure TT 4000 (r02_And [R1.1,R2.1] (by simp)) rfl rfl ?_
   simp only [go_sem,go_sem_proc]
   exact Le.refl _
theorem Ref_in (r:List Val) (e:Expr) (h:(e.op.toList == sLit.toList)=false) (h2:(e.op.toList == sAt.toList)=false) (h3:(e.op.toList == sCall.toList)=false) (hin:(e.op.toList == (⟨#[105,110]⟩:ByteArray).toList)=true) (x1:Val) (w:List Val) (hw1:1 ≤ w.length) (hb0:w.length ≤ 999) (hn:e.l.length=w.length + 1)
  (hp:∀ (j:Nat) x v,e.l[j]?=some x → (x1 :: w)[j]?=some v → RefR r x v 0):RefR r e (inS x1 w).1 (inS x1 w).2:=by
 have hI:=r02_In x1 w (by omega)
 generalize inS x1 w=R at hI
 obtain ⟨vs,hvs⟩:∃ vs:List Val,vs=x1 :: w:=⟨_,rfl⟩
 rw [← hvs] at hp
 have hn2:vs.length=e.l.length:=by rw [hvs,hn];rfl
 have hb:e.l.length ≤ 1000:=by omega
 refine Good.of_vmQ TT 4000 Tryz.func55 rfl rfl ?_
 unfold Tryz.f55
 simp only [go_sem,go_sem_proc]
 refine Lp.atP TT 4000 2 (Nat.le_of_ble_eq_true rfl) [false,false,false,false,false,true,true,false,true,true,true,false,false,false,false,false,false,true,true,true,true,true,true,true,true,true,true,true,true,true,true,true,true,true,true,true] (fun j:Nat=>e.l.length - j) (fun j=>j ≤ e.l.length) (fun j=>[(6,.sl 2 0 j),(17,cI j)]) (fun j=>[.rows 3 26 ((vs.take j).map Val.cs)]) [2] (0) (Nat.zero_le _) ?_ ?_
 ·simp only [go_sem,go_sem_proc]
  first | done | rfl
 ·rintro j i1
  rcases Nat.lt_or_ge j e.l.length with hlt | hge
  ·skip
   obtain ⟨x,hx,hm,ht,hd⟩:=getS hlt
   have hw:=wrap_succ (j:=j) (by omega)
   have hv:=List.getElem?_eq_getElem (l:=vs) (i:=j) (by omega)
   generalize vs[j]'(by omega)=v at hv
   have hmin:min j vs.length=j:=Nat.min_eq_left (by omega)
   have hall:((vs.take j).map Val.cs).all (fun y=>y.length == 3)=true:=List.all_eq_true.2 fun y hy=>by
    obtain ⟨z,_,rfl⟩:=List.mem_map.1 hy
    rfl
   have hnext:List.map Val.cs (vs.take j) ++ [[.int .i64 v.k,.int .i64 v.i,.str v.s]]=List.map Val.cs (vs.take (j + 1)):=by
    obtain ⟨g1,g2⟩:=List.getElem?_eq_some_iff.1 hv
    rw [← List.take_append_getElem g1,List.map_append,g2];rfl
   simp only [go_sem,hlt,hx,go_sem_proc]
   refine Cl.pure TT 4000 (hp j x v hx hv) rfl rfl ?_
   simp only [go_sem,hw,hmin,hall,List.length_map,List.length_take,Nat.zero_add,hnext,go_sem_proc]
   exact ⟨by omega,j + 1,[6],by omega,by omega,rfl,⟨Fit1.of_eq rfl,Fit1.of_eq rfl⟩,rfl⟩
  ·have:j=e.l.length:=by omega
   subst this
   have hk:List.take e.l.length vs=vs:=List.take_of_length_le (by omega)
   rw [hvs] at hk
   rw [hn] at hk
   have g0:(0:Int) < ((w.length + 1:Nat):Int):=by omega
   have b1:(((w.length + 1:Nat):Int) == 1)=false:=by rw [beq_eq_false_iff_ne];omega
   have b3:((w.length + 1:Nat):Int) > 0:=by omega
   have hbt:(e.op.toList == (⟨#[98,101,116,119,101,101,110]⟩:ByteArray).toList)=false:=by rw [eq_of_beq hin];exact (bs_eq [105,110] [98,101,116,119,101,101,110]).trans rfl
   have hino:(e.op.toList != (⟨#[105,110]⟩:ByteArray).toList)=false:=by simp [eq_of_beq hin]
   have hk5:List.take w.length (List.map Val.cs w)=List.map Val.cs w:=List.take_of_length_le (by simp)
   have c1:1 ≤ w.length + 1:=by omega
   have c2:1 + w.length ≤ w.length + 1:=by omega
   have c3:(1:Int) ≤ ((w.length + 1:Nat):Int):=by omega
   cases b2:(((w.length + 1:Nat):Int) == 2)
   ·cases b4:(((w.length + 1:Nat):Int) == 3)
    ·simp only [go_sem,Nat.lt_irrefl,h,h2,h3,hk,hn,hvs,b1,b3,hin,hino,hbt,b2,b4,go_sem_proc]
     refine Dr.ofC TT (by kernel_rfl) [(84,[x1.av,.c (rowC w)],vals R.1 R.2)] ⟨⟨hI,rfl⟩,trivial⟩ ?_
     simp only [go_sem,g0,c1,c2,c3,hk5,Nat.reduceLT,Option.map_some,Nat.zero_add,Nat.add_sub_cancel,Nat.le_refl,true_and,go_sem_proc]
     refine DEnd.of TT 4000 (memOK_of2 (by kernel_rfl)) ?_
     simp only [go_sem,go_sem_proc]
     exact Le.refl _
    ·simp only [go_sem,Nat.lt_irrefl,h,h2,h3,hk,hn,hvs,b1,b3,hin,hino,hbt,b2,b4,go_sem_proc]
     refine Dr.ofC TT (by kernel_rfl) [(84,[x1.av,.c (rowC w)],vals R.1 R.2)] ⟨⟨hI,rfl⟩,trivial⟩ ?_
     simp only [go_sem,g0,c1,c2,c3,hk5,Nat.reduceLT,Option.map_some,Nat.zero_add,Nat.add_sub_cancel,Nat.le_refl,true_and,go_sem_proc]
     refine DEnd.of TT 4000 (memOK_of2 (by kernel_rfl)) ?_
     simp only [go_sem,go_sem_proc]
     exact Le.refl _
   ·have b4:(((w.length + 1:Nat):Int) == 3)=false:=by
     have:=eq_of_beq b2
     rw [beq_eq_false_iff_ne];omega
    simp only [go_sem,Nat.lt_irrefl,h,h2,h3,hk,hn,hvs,b1,b3,hin,hino,hbt,b2,b4,go_sem_proc]
    refine Dr.ofC TT (by kernel_rfl) [(84,[x1.av,.c (rowC w)],vals R.1 R.2)] ⟨⟨hI,rfl⟩,trivial⟩ ?_
    simp only [go_sem,g0,c1,c2,c3,hk5,Nat.reduceLT,Option.map_some,Nat.zero_add,Nat.add_sub_cancel,Nat.le_refl,true_and,go_sem_proc]
    refine DEnd.of TT 4000 (memOK_of2 (by kernel_rfl)) ?_
    simp only [go_sem,go_sem_proc]
    exact Le.refl _
end Go.Ev
end
section
open Go Go.Proofs Go.RowKit
namespace Go.Ev
open Go.Proofs.YtifdakibkadfiaaGreatDoor (GV Rets VS SomeMax Fine)
theorem inB7_mem {op:ByteArray} {l:List ByteArray} (h:inB7 op l=true):∃ t,t ∈ l ∧ op=t:=by
 obtain ⟨t,ht,he⟩:=List.any_eq_true.1 h
 exact ⟨t,ht,Go.Proofs.YtifdakibkadfiaaGreatDoor.bytes_eq (eq_of_beq he)⟩
theorem ne_lit (l m:List UInt8) (h:bsq l m=false):((⟨l.toArray⟩:ByteArray).toList == (⟨m.toArray⟩:ByteArray).toList)=false:=(bs_eq l m).trans h
theorem work_one (op:ByteArray) (x:Val) (h:inB7 op oneL=true):workV op [x]=oneV op x:=by
 obtain ⟨t,ht,rfl⟩:=inB7_mem h
 simp only [oneL,List.mem_cons,List.not_mem_nil,or_false] at ht
 unfold oneV
 rcases ht with rfl | rfl | rfl | rfl
 ·rw [if_pos (beq_self_eq_true _)];exact wv [110,101,103] [x]
 ·rw [if_neg (by rw [ne_lit _ _ rfl];simp),if_pos (beq_self_eq_true _)];exact wv [110,111,116] [x]
 ·rw [if_neg (by rw [ne_lit _ _ rfl];simp),if_neg (by rw [ne_lit _ _ rfl];simp),if_pos (beq_self_eq_true _)];exact wv [105,115,110,117,108,108] [x]
 ·rw [if_neg (by rw [ne_lit _ _ rfl];simp),if_neg (by rw [ne_lit _ _ rfl];simp),if_neg (by rw [ne_lit _ _ rfl];simp),if_pos (beq_self_eq_true _)];exact wv [110,111,116,110,117,108,108] [x]
theorem rel_no {op:ByteArray} (h:∀ t,t ∈ relL → (op.toList == t.toList)=false):inB7 op relL=false:=List.any_eq_false.2 fun t ht=>by rw [h t ht];simp
theorem work_two (op:ByteArray) (x y:Val) (h:inB7 op twoL=true ∨ inB7 op signL=true ∨ inB7 op relL=true):workV op [x,y]=twoV op x y:=by
 unfold twoV
 rcases h with h | h | h
 ·obtain ⟨t,ht,rfl⟩:=inB7_mem h
  simp only [twoL,List.mem_cons,List.not_mem_nil,or_false] at ht
  rcases ht with rfl | rfl | rfl
  ·rw [if_pos (beq_self_eq_true _)];exact wv [97,110,100] [x,y]
  ·rw [if_neg (by rw [ne_lit _ _ rfl];simp),if_pos (beq_self_eq_true _)];exact wv [111,114] [x,y]
  ·have hr:inB7 (⟨#[108,105,107,101]⟩:ByteArray) relL=false:=rel_no fun t ht=>by
    simp only [relL,List.mem_cons,List.not_mem_nil,or_false] at ht
    rcases ht with rfl | rfl | rfl | rfl | rfl | rfl <;> exact ne_lit [108,105,107,101] _ rfl
   rw [if_neg (by rw [ne_lit _ _ rfl];simp),if_neg (by rw [ne_lit _ _ rfl];simp),if_neg (by rw [ne_lit _ _ rfl];simp),hr,if_neg (by simp),if_pos (beq_self_eq_true _)];exact wv [108,105,107,101] [x,y]
 ·obtain ⟨t,ht,rfl⟩:=inB7_mem h
  simp only [signL,List.mem_cons,List.not_mem_nil,or_false] at ht
  have key:∀ l:List UInt8,(∀ t,t ∈ relL → (l == t.data.toList)=false) → inB7 (⟨l.toArray⟩:ByteArray) relL=false:=fun l hl=>rel_no fun t ht=>by
   rw [Go.ByteArray.toList_eq,Go.ByteArray.toList_eq];exact hl t ht
  have kr:∀ l:List UInt8,l ∈ [[43],[45],[42],[47],[(37:UInt8)],[124,124]] → inB7 (⟨l.toArray⟩:ByteArray) relL=false:=fun l hl=>key l fun t ht=>by
   simp only [relL,List.mem_cons,List.not_mem_nil,or_false] at ht hl
   rcases hl with rfl | rfl | rfl | rfl | rfl | rfl <;> rcases ht with rfl | rfl | rfl | rfl | rfl | rfl <;> rfl
  rcases ht with rfl | rfl | rfl | rfl | rfl | rfl
  ·rw [if_neg (by rw [ne_lit _ _ rfl];simp),if_neg (by rw [ne_lit _ _ rfl];simp),if_neg (by rw [ne_lit _ _ rfl];simp),kr [43] (by simp),if_neg (by simp),if_neg (by rw [ne_lit _ _ rfl];simp)];exact wv [43] [x,y]
  ·rw [if_neg (by rw [ne_lit _ _ rfl];simp),if_neg (by rw [ne_lit _ _ rfl];simp),if_neg (by rw [ne_lit _ _ rfl];simp),kr [45] (by simp),if_neg (by simp),if_neg (by rw [ne_lit _ _ rfl];simp)];exact wv [45] [x,y]
  ·rw [if_neg (by rw [ne_lit _ _ rfl];simp),if_neg (by rw [ne_lit _ _ rfl];simp),if_neg (by rw [ne_lit _ _ rfl];simp),kr [42] (by simp),if_neg (by simp),if_neg (by rw [ne_lit _ _ rfl];simp)];exact wv [42] [x,y]
  ·rw [if_neg (by rw [ne_lit _ _ rfl];simp),if_neg (by rw [ne_lit _ _ rfl];simp),if_neg (by rw [ne_lit _ _ rfl];simp),kr [47] (by simp),if_neg (by simp),if_neg (by rw [ne_lit _ _ rfl];simp)];exact wv [47] [x,y]
  ·rw [if_neg (by rw [ne_lit _ _ rfl];simp),if_neg (by rw [ne_lit _ _ rfl];simp),if_neg (by rw [ne_lit _ _ rfl];simp),kr [37] (by simp),if_neg (by simp),if_neg (by rw [ne_lit _ _ rfl];simp)];exact wv [37] [x,y]
  ·rw [if_neg (by rw [ne_lit _ _ rfl];simp),if_neg (by rw [ne_lit _ _ rfl];simp),if_pos (beq_self_eq_true _)];exact wv [124,124] [x,y]
 ·have hr:=h
  obtain ⟨t,ht,rfl⟩:=inB7_mem h
  simp only [relL,List.mem_cons,List.not_mem_nil,or_false] at ht
  rcases ht with rfl | rfl | rfl | rfl | rfl | rfl
  ·rw [if_neg (by rw [ne_lit _ _ rfl];simp),if_neg (by rw [ne_lit _ _ rfl];simp),if_neg (by rw [ne_lit _ _ rfl];simp),if_pos hr];exact wv [61] [x,y]
  ·rw [if_neg (by rw [ne_lit _ _ rfl];simp),if_neg (by rw [ne_lit _ _ rfl];simp),if_neg (by rw [ne_lit _ _ rfl];simp),if_pos hr];exact wv [60,62] [x,y]
  ·rw [if_neg (by rw [ne_lit _ _ rfl];simp),if_neg (by rw [ne_lit _ _ rfl];simp),if_neg (by rw [ne_lit _ _ rfl];simp),if_pos hr];exact wv [60] [x,y]
  ·rw [if_neg (by rw [ne_lit _ _ rfl];simp),if_neg (by rw [ne_lit _ _ rfl];simp),if_neg (by rw [ne_lit _ _ rfl];simp),if_pos hr];exact wv [60,61] [x,y]
  ·rw [if_neg (by rw [ne_lit _ _ rfl];simp),if_neg (by rw [ne_lit _ _ rfl];simp),if_neg (by rw [ne_lit _ _ rfl];simp),if_pos hr];exact wv [62] [x,y]
  ·rw [if_neg (by rw [ne_lit _ _ rfl];simp),if_neg (by rw [ne_lit _ _ rfl];simp),if_neg (by rw [ne_lit _ _ rfl];simp),if_pos hr];exact wv [62,61] [x,y]
theorem at_not_lit' {e:Expr} (h:(e.op.toList == sAt.toList)=true):(e.op.toList == sLit.toList)=false:=by
 rw [eq_of_beq h];exact (bs_eq [97,116] [108,105,116]).trans rfl
def PartsOK (e:Expr):Prop:=((e.op.toList == sAt.toList)=true → e.l=[]) ∧ ((e.op.toList == sAt.toList)=false → partsB e.op e.l.length=true ∧ (e.op.toList == sCol.toList)=false ∧ (e.op.toList == sStar.toList)=false)
theorem refEval (r:List Val) (hr:∀ v,v ∈ r → I64 v.i ∧ v.s.size ≤ 100000) (e:Expr) (hn:wtE e ≤ 9000000) (ha:Expr.All (fun x=>NodeW r.length x ∧ PartsOK x) e):RefR r e (evalF r e).1 (evalF r e).2:=by
 revert hn ha
 induction e using Expr.ind with
 | h e ih =>
 intro hn ha
 have ha0:=ha
 rw [Expr.All_iff] at ha
 obtain ⟨⟨⟨hin,hlw,hel⟩,hpa,hpn⟩,hs⟩:=ha
 have hwe:=wtE_eq e
 rw [evalF_eq]
 cases h2:(e.op.toList == sAt.toList)
 case true =>
  have h1:(e.op.toList == sLit.toList)=false:=at_not_lit' h2
  rw [h1,if_neg (by simp),if_pos rfl]
  obtain ⟨b1,b2⟩:=hin h2
  obtain ⟨j,hj⟩:∃ j:Nat,e.v.i=j:=⟨e.v.i.toNat,by omega⟩
  have hjr:j < r.length:=by omega
  have hg:=List.getElem?_eq_getElem hjr
  have hat:atF r e.v=(r[j],0):=by unfold atF;rw [hj,show ((j:Nat):Int).toNat=j from rfl,hg]
  rw [hat]
  exact Ref_at r e h1 h2 (hpa h2) hj hg
 obtain ⟨hpb,hcol,hstar⟩:=hpn h2
 cases h1:(e.op.toList == sLit.toList)
 case true =>
  rw [if_pos rfl]
  have hz:inB7 e.op zeroL=true:=List.any_eq_true.2 ⟨_,.head _,h1⟩
  unfold partsB at hpb
  rw [hz,if_pos rfl] at hpb
  exact Ref_lit r e h1 (List.eq_nil_of_length_eq_zero (beq_iff_eq.1 hpb))
 rw [if_neg (by simp),if_neg (by simp)]
 rw [h1,h2,if_neg (by simp),if_neg (by simp)] at hwe
 have part:∀ x,x ∈ e.l → RefR r x (evalF r x).1 (evalF r x).2:=fun x hx=>ih x hx (by have:=wtL_mem hx;omega) (hs x hx)
 have fine:∀ x,x ∈ e.l → FineW (wtE x) (evalF r x):=fun x hx=>(evalF_all r hr x (by have:=wtL_mem hx;omega) ((hs x hx).imp fun y hy=>hy.1)).1
 by_cases h0:(evalL r e.l).2=0
 case neg =>
  rw [if_pos h0]
  obtain ⟨k,x,hx,hf,hl⟩:=evalL_err r e.l h0
  have px:=part x (List.mem_of_getElem? hx)
  rw [← hf]
  refine Ref_err r e hel (e.l.map fun x=>(evalF r x).1) (by simp) k (List.getElem?_eq_some_iff.1 hx).1 (fun j y v hj hy hv=>?_) hx (by rw [hf];exact h0) px
  rw [List.getElem?_map,hy] at hv
  cases hv
  rw [← hl j y hj hy]
  exact part y (List.mem_of_getElem? hy)
 rw [if_neg (by simp [h0])]
 obtain ⟨hvs,hall⟩:=evalL_ok r e.l h0
 rw [hvs]
 have pp:∀ (j:Nat) x v,e.l[j]?=some x → (e.l.map fun x=>(evalF r x).1)[j]?=some v → RefR r x v 0:=fun j x v hx hv=>by
  rw [List.getElem?_map,hx] at hv
  cases hv
  rw [← hall x (List.mem_of_getElem? hx)]
  exact part x (List.mem_of_getElem? hx)
 have hvl:(e.l.map fun x=>(evalF r x).1).length=e.l.length:=by simp
 have hvi:∀ v,v ∈ (e.l.map fun x=>(evalF r x).1) → I64 v.i:=fun v hv=>by
  obtain ⟨x,hx,rfl⟩:=List.mem_map.1 hv
  exact (fine x hx).1
 have hvs2:∀ v,v ∈ (e.l.map fun x=>(evalF r x).1) → v.s.size ≤ 10000000:=fun v hv=>by
  obtain ⟨x,hx,rfl⟩:=List.mem_map.1 hv
  have h3:=(fine x hx).2
  have h4:=wtL_mem hx
  omega
 generalize (e.l.map fun x=>(evalF r x).1)=vs at hvl pp hvi hvs2
 cases h3:(e.op.toList == sCall.toList)
 case true =>
  rw [if_pos rfl]
  exact Ref_call r e h1 h2 h3 hel vs hvl pp (r03_Call e.name vs (by omega) hvi hvs2)
 rw [if_neg (by simp)]
 have hz:inB7 e.op zeroL=false:=by
  rw [show inB7 e.op zeroL=((e.op.toList == sLit.toList) || ((e.op.toList == sCol.toList) || ((e.op.toList == sStar.toList) || false))) from rfl,h1,hcol,hstar];rfl
 unfold partsB at hpb
 rw [hz,if_neg (by simp)] at hpb
 cases ho:inB7 e.op oneL
 case true =>
  rw [ho,if_pos rfl] at hpb
  have hl1:e.l.length=1:=beq_iff_eq.1 hpb
  obtain ⟨x,rfl⟩:∃ x,vs=[x]:=by
   match vs,(by omega:vs.length=1) with
   | [x],_=>exact ⟨x,rfl⟩
  rw [work_one e.op x ho]
  exact Ref_one r e h1 h2 h3 x hl1 pp (r10_one e.op x (hvi x (by simp)))
 rw [ho,if_neg (by simp)] at hpb
 cases ht:(inB7 e.op twoL || inB7 e.op signL || inB7 e.op relL)
 case true =>
  rw [ht,if_pos rfl] at hpb
  have hl2:e.l.length=2:=beq_iff_eq.1 hpb
  obtain ⟨x,y,rfl⟩:∃ x y,vs=[x,y]:=by
   match vs,(by omega:vs.length=2) with
   | [x,y],_=>exact ⟨x,y,rfl⟩
  have hor:inB7 e.op twoL=true ∨ inB7 e.op signL=true ∨ inB7 e.op relL=true:=by
   simp only [Bool.or_eq_true] at ht
   rcases ht with (h | h) | h
   ·exact .inl h
   ·exact .inr (.inl h)
   ·exact .inr (.inr h)
  rw [work_two e.op x y hor]
  have hnin:(e.op.toList == (⟨#[105,110]⟩:ByteArray).toList)=false:=by
   rcases hor with h | h | h
   all_goals
    obtain ⟨t,ht2,he⟩:=inB7_mem h
    rw [he]
    simp only [twoL,signL,relL,List.mem_cons,List.not_mem_nil,or_false] at ht2
   ·rcases ht2 with rfl | rfl | rfl <;> exact ne_lit _ [105,110] rfl
   ·rcases ht2 with rfl | rfl | rfl | rfl | rfl | rfl <;> exact ne_lit _ [105,110] rfl
   ·rcases ht2 with rfl | rfl | rfl | rfl | rfl | rfl <;> exact ne_lit _ [105,110] rfl
  exact Ref_two r e h1 h2 h3 hnin x y hl2 pp (r10_two e.op x y (hvi x (by simp)) (hvi y (by simp)) (hvs2 x (by simp)) (hvs2 y (by simp)))
 rw [ht,if_neg (by simp)] at hpb
 cases hbt:(e.op.toList == (⟨#[98,101,116,119,101,101,110]⟩:ByteArray).toList)
 case true =>
  rw [hbt,if_pos rfl] at hpb
  have hl3:e.l.length=3:=beq_iff_eq.1 hpb
  obtain ⟨x,y,z,rfl⟩:∃ x y z,vs=[x,y,z]:=by
   match vs,(by omega:vs.length=3) with
   | [x,y,z],_=>exact ⟨x,y,z,rfl⟩
  have hw:workV e.op [x,y,z]=betweenS x y z:=by
   rw [Go.Proofs.YtifdakibkadfiaaGreatDoor.bytes_eq (eq_of_beq hbt)];exact wv [98,101,116,119,101,101,110] [x,y,z]
  rw [hw]
  exact Ref_between r e h1 h2 h3 hbt x y z hl3 pp
 rw [hbt,if_neg (by simp)] at hpb
 cases hi2:(e.op.toList == (⟨#[105,110]⟩:ByteArray).toList)
 case false =>
  rw [hi2,if_neg (by simp)] at hpb
  rw [h3] at hpb;cases hpb
 rw [hi2,if_pos rfl] at hpb
 have hl4:2 ≤ e.l.length:=of_decide_eq_true hpb
 match vs,hvl,pp,hvi with
 | [],hvl,_,_=>simp at hvl;omega
 | x :: w,hvl,pp,hvi =>
  have hw:workV e.op (x :: w)=inS x w:=by
   rw [Go.Proofs.YtifdakibkadfiaaGreatDoor.bytes_eq (eq_of_beq hi2)];exact wv [105,110] (x :: w)
  rw [hw]
  simp only [List.length_cons] at hvl
  exact Ref_in r e h1 h2 h3 hi2 x w (by omega) (by omega) hvl.symm pp
end Go.Ev
end
