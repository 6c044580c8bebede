import Derived.Test.YtifdakibkadfiaaGreatDoorMs3
import Derived.Test.YtifdakibkadfiaaGreatDoorMs1
import Derived.Test.YtifdakibkadfiaaGreatDoorMs2
import Derived.Test.YtifdakibkadfiaaGreatDoorMr2
import Derived.Test.YtifdakibkadfiaaGreatDoorMs5
import Derived.Test.YtifdakibkadfiaaGreatDoorMe6
set_option linter.all false
set_option maxRecDepth 100000
set_option maxHeartbeats 8000000
section
open Go Go.Proofs Go.RowKit
namespace Go.Ev
def zmb (op:ByteArray) (x:Val):Val × Int:=
 if op.toList == (⟨#[110,101,103]⟩:ByteArray).toList then zed x
 else if op.toList == (⟨#[110,111,116]⟩:ByteArray).toList then zec x
 else if op.toList == (⟨#[105,115,110,117,108,108]⟩:ByteArray).toList then (zZ (x.k == 0),0)
 else if op.toList == (⟨#[110,111,116,110,117,108,108]⟩:ByteArray).toList then (zZ (!(x.k == 0)),0)
 else (zeroV,1)
def zl6 (op:ByteArray) (a b:Val):Val × Int:=
 if op.toList == (⟨#[97,110,100]⟩:ByteArray).toList then lgS 0 [a,b]
 else if op.toList == (⟨#[111,114]⟩:ByteArray).toList then lgS 1 [a,b]
 else if op.toList == (⟨#[124,124]⟩:ByteArray).toList then VK a b
 else if jx op JZ then qX op a b
 else if op.toList == (⟨#[108,105,107,101]⟩:ByteArray).toList then yT a b
 else zN op a b
theorem zjZ (op:ByteArray) (x:Val) (hx:I64 x.i):Good Tryz.prog 80 [cS op,x.av] [] (qY (zmb op x).1 (zmb op x).2) []:=by
 have hN:=zf0 x hx
 have hO:=zj2 x
 have hne:(x.k != 0) = !(x.k == 0):=rfl
 refine Good.zg TT 4000 Tryz.func80 rfl rfl ?_
 unfold Tryz.f80
 unfold zmb
 simp only [go_sem,go_sem_proc]
 cases a0:(op.toList == (⟨#[110,101,103]⟩:ByteArray).toList)
 case true =>
  simp only [go_sem,a0,go_sem_proc]
  refine Cl.pure TT 4000 (hN) rfl rfl ?_
  simp only [go_sem,go_sem_proc]
  exact Le.refl _
 cases a1:(op.toList == (⟨#[110,111,116]⟩:ByteArray).toList)
 case true =>
  simp only [go_sem,a0,a1,go_sem_proc]
  refine Cl.pure TT 4000 (hO) rfl rfl ?_
  simp only [go_sem,go_sem_proc]
  exact Le.refl _
 cases a2:(op.toList == (⟨#[105,115,110,117,108,108]⟩:ByteArray).toList)
 case true =>
  simp only [go_sem,a0,a1,a2,go_sem_proc]
  refine Cl.pure TT 4000 (qb (x.k == 0)) rfl rfl ?_
  simp only [go_sem,go_sem_proc]
  exact Le.refl _
 cases a3:(op.toList == (⟨#[110,111,116,110,117,108,108]⟩:ByteArray).toList)
 case true =>
  simp only [go_sem,a0,a1,a2,a3,hne,go_sem_proc]
  refine Cl.pure TT 4000 (qb (!(x.k == 0))) rfl rfl ?_
  simp only [go_sem,go_sem_proc]
  exact Le.refl _
 simp only [go_sem,a0,a1,a2,a3,go_sem_proc]
 exact Le.refl _
theorem zkO (op:ByteArray) (a b:Val) (ha:I64 a.i) (hb:I64 b.i) (hs:a.s.size ≤ 10000000) (ht:b.s.size ≤ 10000000):Good Tryz.prog 81 [cS op,a.av,b.av] [] (qY (zl6 op a b).1 (zl6 op a b).2) []:=by
 have h1:=zgf [a,b] (by simp)
 have h2:=zjV [a,b] (by simp)
 have h3:=zhx a b (by omega)
 have h4:=zbp op
 have h5:=J5 op a b
 have h6:=W1 op a b ha hb
 have h7:=zjb a.s b.s hs (by omega)
 unfold zl6 yT
 generalize lgS 0 [a,b]=R1 at h1
 generalize lgS 1 [a,b]=R2 at h2
 generalize VK a b=R3 at h3
 generalize qX op a b=R5 at h5
 generalize zN op a b=R6 at h6
 generalize Ze a.s b.s=R7 at h7
 refine Good.zg TT 4000 Tryz.func81 rfl rfl ?_
 unfold Tryz.f81
 simp only [go_sem,go_sem_proc]
 cases a0:(op.toList == (⟨#[97,110,100]⟩:ByteArray).toList)
 case true =>
  simp only [go_sem,a0,go_sem_proc]
  refine Cl.pure TT 4000 h1 rfl rfl ?_
  simp only [go_sem,go_sem_proc]
  exact Le.refl _
 cases a1:(op.toList == (⟨#[111,114]⟩:ByteArray).toList)
 case true =>
  simp only [go_sem,a0,a1,go_sem_proc]
  refine Cl.pure TT 4000 h2 rfl rfl ?_
  simp only [go_sem,go_sem_proc]
  exact Le.refl _
 cases a2:(op.toList == (⟨#[124,124]⟩:ByteArray).toList)
 case true =>
  simp only [go_sem,a0,a1,a2,go_sem_proc]
  refine Cl.pure TT 4000 h3 rfl rfl ?_
  simp only [go_sem,go_sem_proc]
  exact Le.refl _
 simp only [go_sem,a0,a1,a2,go_sem_proc]
 refine Cl.pure TT 4000 h4 rfl rfl ?_
 cases a3:jx op JZ
 case true =>
  simp only [go_sem,a3,go_sem_proc]
  refine Cl.pure TT 4000 h5 rfl rfl ?_
  simp only [go_sem,go_sem_proc]
  exact Le.refl _
 simp only [go_sem,a3,go_sem_proc]
 cases a4:(op.toList == (⟨#[108,105,107,101]⟩:ByteArray).toList)
 case false =>
  simp only [go_sem,a4,go_sem_proc]
  refine Cl.pure TT 4000 h6 rfl rfl ?_
  simp only [go_sem,go_sem_proc]
  exact Le.refl _
 by_cases n0:a.k=0
 ·have n0':(a.k == 0)=true:=by simp [n0]
  simp only [go_sem,a4,n0',n0,go_sem_proc]
  exact Le.refl _
 have n0':(a.k == 0)=false:=by simp [n0]
 by_cases n1:b.k=0
 ·have n1':(b.k == 0)=true:=by simp [n1]
  simp only [go_sem,a4,n0',n0,n1',n1,go_sem_proc]
  exact Le.refl _
 have n1':(b.k == 0)=false:=by simp [n1]
 by_cases t0:a.k=3
 case neg =>
  have t0':(a.k != 3)=true:=by simp [t0]
  simp only [go_sem,a4,n0',n0,n1',n1,t0',t0,go_sem_proc]
  exact Le.refl _
 have t0':(a.k != 3)=false:=by simp [t0]
 by_cases t1:b.k=3
 case neg =>
  have t1':(b.k != 3)=true:=by simp [t1]
  simp only [go_sem,a4,n0',n0,n1',n1,t0',t1',t1,go_sem_proc]
  exact Le.refl _
 have t1':(b.k != 3)=false:=by simp [t1]
 simp only [go_sem,a4,n0',n0,n1',n1,t0',t0,t1',t1,go_sem_proc]
 refine Cl.pure TT 4000 h7 rfl rfl ?_
 by_cases e0:R7.2=0
 ·have e0':(R7.2 != 0)=false:=by simp [e0]
  simp only [go_sem,e0',e0,go_sem_proc]
  refine Cl.pure TT 4000 (qb R7.1) rfl rfl ?_
  simp only [go_sem,go_sem_proc]
  exact Le.refl _
 ·have e0':(R7.2 != 0)=true:=by simp [e0]
  simp only [go_sem,e0',e0,go_sem_proc]
  exact Le.refl _
end Go.Ev
end
section
open Go Go.Proofs Go.RowKit
namespace Go.Ev
open Go.Proofs.YtifdakibkadfiaaGreatDoor (GV zx VS zY kD)
abbrev Vs (r:List Val) (e:Expr) (v:Val) (f:Int):Prop:=Good Tryz.prog 55 [e.av,.c (qk r)] [] (qY v f) []
theorem zk5 (r:List Val) (e:Expr) (hb:e.l.length ≤ 1000) (vs:List Val) (hn:vs.length=e.l.length) (k:Nat) (hk:k < e.l.length)
  (hp:∀ (j:Nat) x v,j < k → e.l[j]?=some x → vs[j]?=some v → Vs r x v 0) {x:Expr} {w:Val} {f:Int} (hx:e.l[k]?=some x) (hf:f ≠ 0) (he:Vs r x w f):Vs r e zeroV f:=by
 have hf':(f != 0)=true:=by simp [hf]
 refine Good.zg TT 4000 Tryz.func55 rfl rfl ?_
 unfold Tryz.f55
 simp only [go_sem,go_sem_proc]
 refine Lp.atP TT 4000 2 (Nat.le_of_ble_eq_true rfl) [false,false,false,false,false,true,true,false,true,true,true,false,false,false,false,false,false,true,true,true,true,true,true,true,true,true,true,true,true,true,true,true,true,true,true,true] (fun j:Nat=>e.l.length - j) (fun j=>j ≤ k) (fun j=>[(6,.sl 2 0 j),(17,cI j)]) (fun j=>[.rows 3 26 ((vs.take j).map Val.cs)]) [2] (0) (Nat.zero_le _) ?_ ?_
 ·simp only [go_sem,go_sem_proc]
  first | done | rfl
 ·rintro j i1
  have hlt:j < e.l.length:=by omega
  rcases Nat.lt_or_ge j k with hj | hj
  ·have hp:=fun (i:Nat) x v (h1:e.l[i]?=some x) (h2:vs[i]?=some v) (h3:i < k)=>hp i x v h3 h1 h2
   obtain ⟨x,hx,hm,ht,hd⟩:=vj hlt
   have hw:=zh (j:=j) (by omega)
   have hv:=List.getElem?_eq_getElem (l:=vs) (i:=j) (by omega)
   generalize vs[j]'(by omega)=v at hv
   have hmin:min j vs.length=j:=Nat.min_eq_left (by omega)
   have hall:((vs.take j).map Val.cs).all (fun y=>y.length == 3)=true:=List.all_eq_true.2 fun y hy=>by
    obtain ⟨z,_,rfl⟩:=List.mem_map.1 hy
    rfl
   have hnext:List.map Val.cs (vs.take j) ++ [[.int .i64 v.k,.int .i64 v.i,.str v.s]]=List.map Val.cs (vs.take (j + 1)):=by
    obtain ⟨g1,g2⟩:=List.getElem?_eq_some_iff.1 hv
    rw [← List.take_append_getElem g1,List.map_append,g2];rfl
   simp only [go_sem,hlt,hx,go_sem_proc]
   refine Cl.pure TT 4000 (hp j x v hx hv hj) rfl rfl ?_
   simp only [go_sem,hw,hmin,hall,List.length_map,List.length_take,Nat.zero_add,hnext,go_sem_proc]
   exact ⟨by omega,j + 1,[6],by omega,by omega,rfl,⟨zq.of_eq rfl,zq.of_eq rfl⟩,rfl⟩
  ·have:j=k:=by omega
   subst this
   simp only [go_sem,hlt,hx,go_sem_proc]
   refine Cl.pure TT 4000 he rfl rfl ?_
   simp only [go_sem,hf',go_sem_proc]
   exact Le.refl _
theorem zkC (r:List Val) (e:Expr) (h:(e.op.toList == wz.toList)=true) (hl:e.l=[]):Vs r e e.v 0:=by
 have vs:List Val:=[]
 refine Good.zg TT 4000 Tryz.func55 rfl rfl ?_
 unfold Tryz.f55
 simp only [go_sem,hl,go_sem_proc]
 refine Lp.atP TT 4000 2 (Nat.le_of_ble_eq_true rfl) [false,false,false,false,false,true,true,false,true,true,true,false,false,false,false,false,false,true,true,true,true,true,true,true,true,true,true,true,true,true,true,true,true,true,true,true] (fun _:Unit=>0) (fun _=>True) (fun _=>[(6,.sl 2 0 0),(17,cI 0)]) (fun _=>[.rows 3 26 []]) [2] (()) (trivial) ?_ ?_
 ·simp only [go_sem,go_sem_proc]
  first | done | rfl
 ·rintro _ _
  simp only [go_sem,h,go_sem_proc]
  exact Le.refl _
theorem zlw (r:List Val) (e:Expr) (h:(e.op.toList == wz.toList)=false) (h2:(e.op.toList == sAt.toList)=true) (hl:e.l=[]) {x:Val} {j:Nat} (hj:e.v.i=j) (hx:r[j]?=some x):Vs r e x 0:=by
 have hlt:=(List.getElem?_eq_some_iff.1 hx).1
 have h3:¬ ((j:Int) < 0):=by omega
 have h4:¬ ((j:Int) ≥ (r.length:Int)):=by omega
 refine Good.zg TT 4000 Tryz.func55 rfl rfl ?_
 unfold Tryz.f55
 simp only [go_sem,hl,go_sem_proc]
 refine Lp.atP TT 4000 2 (Nat.le_of_ble_eq_true rfl) [false,false,false,false,false,true,true,false,true,true,true,false,false,false,false,false,false,true,true,true,true,true,true,true,true,true,true,true,true,true,true,true,true,true,true,true] (fun _:Unit=>0) (fun _=>True) (fun _=>[(6,.sl 2 0 0),(17,cI 0)]) (fun _=>[.rows 3 26 []]) [2] (()) (trivial) ?_ ?_
 ·simp only [go_sem,go_sem_proc]
  first | done | rfl
 ·rintro _ _
  simp only [go_sem,h,h2,hj,h3,h4,hx,hlt,go_sem_proc]
  exact Le.refl _
theorem zhQ (r:List Val) (e:Expr) (h:(e.op.toList == wz.toList)=false) (h2:(e.op.toList == sAt.toList)=false) (h3:(e.op.toList == vS.toList)=true) (hb:e.l.length ≤ 1000) (vs:List Val) (hn:vs.length=e.l.length)
  (hp:∀ (j:Nat) x v,e.l[j]?=some x → vs[j]?=some v → Vs r x v 0) {res:Val} {f:Int} (hc:Good Tryz.prog 79 [cS e.name,.c (qk vs)] [] (qY res f) []):Vs r e res f:=by
 refine Good.zg TT 4000 Tryz.func55 rfl rfl ?_
 unfold Tryz.f55
 simp only [go_sem,go_sem_proc]
 refine Lp.atP TT 4000 2 (Nat.le_of_ble_eq_true rfl) [false,false,false,false,false,true,true,false,true,true,true,false,false,false,false,false,false,true,true,true,true,true,true,true,true,true,true,true,true,true,true,true,true,true,true,true] (fun j:Nat=>e.l.length - j) (fun j=>j ≤ e.l.length) (fun j=>[(6,.sl 2 0 j),(17,cI j)]) (fun j=>[.rows 3 26 ((vs.take j).map Val.cs)]) [2] (0) (Nat.zero_le _) ?_ ?_
 ·simp only [go_sem,go_sem_proc]
  first | done | rfl
 ·rintro j i1
  rcases Nat.lt_or_ge j e.l.length with hlt | hge
  ·skip
   obtain ⟨x,hx,hm,ht,hd⟩:=vj hlt
   have hw:=zh (j:=j) (by omega)
   have hv:=List.getElem?_eq_getElem (l:=vs) (i:=j) (by omega)
   generalize vs[j]'(by omega)=v at hv
   have hmin:min j vs.length=j:=Nat.min_eq_left (by omega)
   have hall:((vs.take j).map Val.cs).all (fun y=>y.length == 3)=true:=List.all_eq_true.2 fun y hy=>by
    obtain ⟨z,_,rfl⟩:=List.mem_map.1 hy
    rfl
   have hnext:List.map Val.cs (vs.take j) ++ [[.int .i64 v.k,.int .i64 v.i,.str v.s]]=List.map Val.cs (vs.take (j + 1)):=by
    obtain ⟨g1,g2⟩:=List.getElem?_eq_some_iff.1 hv
    rw [← List.take_append_getElem g1,List.map_append,g2];rfl
   simp only [go_sem,hlt,hx,go_sem_proc]
   refine Cl.pure TT 4000 (hp j x v hx hv) rfl rfl ?_
   simp only [go_sem,hw,hmin,hall,List.length_map,List.length_take,Nat.zero_add,hnext,go_sem_proc]
   exact ⟨by omega,j + 1,[6],by omega,by omega,rfl,⟨zq.of_eq rfl,zq.of_eq rfl⟩,rfl⟩
  ·have:j=e.l.length:=by omega
   subst this
   have hk:List.take e.l.length vs=vs:=List.take_of_length_le (by omega)
   have hk2:List.take e.l.length (vs.map Val.cs)=vs.map Val.cs:=List.take_of_length_le (by simp [hn])
   simp only [go_sem,Nat.lt_irrefl,h,h2,h3,hk,go_sem_proc]
   refine Cl.pure TT 4000 hc (by simp only [go_sem,hk2,hn,Nat.zero_add,Nat.le_refl,List.length_map,go_sem_proc]) rfl ?_
   simp only [go_sem,go_sem_proc]
   exact Le.refl _
theorem zkk (r:List Val) (e:Expr) (h:(e.op.toList == wz.toList)=false) (h2:(e.op.toList == sAt.toList)=false) (h3:(e.op.toList == vS.toList)=false) (x1:Val) (hn:e.l.length=1)
  (hp:∀ (j:Nat) x v,e.l[j]?=some x → [x1][j]?=some v → Vs r x v 0) {res:Val} {f:Int} (hc:Good Tryz.prog 80 [cS e.op,x1.av] [] (qY res f) []):Vs r e res f:=by
 obtain ⟨vs,hvs⟩:∃ vs:List Val,vs=[x1]:=⟨_,rfl⟩
 rw [← hvs] at hp
 have hn2:vs.length=e.l.length:=by rw [hvs,hn];rfl
 have hb:e.l.length ≤ 1000:=by omega
 refine Good.zg TT 4000 Tryz.func55 rfl rfl ?_
 unfold Tryz.f55
 simp only [go_sem,go_sem_proc]
 refine Lp.atP TT 4000 2 (Nat.le_of_ble_eq_true rfl) [false,false,false,false,false,true,true,false,true,true,true,false,false,false,false,false,false,true,true,true,true,true,true,true,true,true,true,true,true,true,true,true,true,true,true,true] (fun j:Nat=>e.l.length - j) (fun j=>j ≤ e.l.length) (fun j=>[(6,.sl 2 0 j),(17,cI j)]) (fun j=>[.rows 3 26 ((vs.take j).map Val.cs)]) [2] (0) (Nat.zero_le _) ?_ ?_
 ·simp only [go_sem,go_sem_proc]
  first | done | rfl
 ·rintro j i1
  rcases Nat.lt_or_ge j e.l.length with hlt | hge
  ·skip
   obtain ⟨x,hx,hm,ht,hd⟩:=vj hlt
   have hw:=zh (j:=j) (by omega)
   have hv:=List.getElem?_eq_getElem (l:=vs) (i:=j) (by omega)
   generalize vs[j]'(by omega)=v at hv
   have hmin:min j vs.length=j:=Nat.min_eq_left (by omega)
   have hall:((vs.take j).map Val.cs).all (fun y=>y.length == 3)=true:=List.all_eq_true.2 fun y hy=>by
    obtain ⟨z,_,rfl⟩:=List.mem_map.1 hy
    rfl
   have hnext:List.map Val.cs (vs.take j) ++ [[.int .i64 v.k,.int .i64 v.i,.str v.s]]=List.map Val.cs (vs.take (j + 1)):=by
    obtain ⟨g1,g2⟩:=List.getElem?_eq_some_iff.1 hv
    rw [← List.take_append_getElem g1,List.map_append,g2];rfl
   simp only [go_sem,hlt,hx,go_sem_proc]
   refine Cl.pure TT 4000 (hp j x v hx hv) rfl rfl ?_
   simp only [go_sem,hw,hmin,hall,List.length_map,List.length_take,Nat.zero_add,hnext,go_sem_proc]
   exact ⟨by omega,j + 1,[6],by omega,by omega,rfl,⟨zq.of_eq rfl,zq.of_eq rfl⟩,rfl⟩
  ·have:j=e.l.length:=by omega
   subst this
   have hk:List.take e.l.length vs=vs:=List.take_of_length_le (by omega)
   have g0:(0:Int) < ((1:Nat):Int):=by decide
   have g1:(((1:Nat):Int) > 0):=by decide
   have g2:((1:Int) < ((1:Nat):Int))=(1 < 1):=by simp
   have g3:((2:Int) < ((1:Nat):Int))=(2 < 1):=by simp
   have b1:(((1:Nat):Int) == 1)=(1 == 1):=by decide
   have b2:(((1:Nat):Int) == 2)=(1 == 2):=by decide
   have b3:(((1:Nat):Int) == 3)=(1 == 3):=by decide
   rw [hvs] at hk
   simp only [go_sem,Nat.lt_irrefl,h,h2,h3,hk,hn,hvs,b1,b2,b3,go_sem_proc]
   refine Dr.ofC TT (by kernel_rfl) [(80,[cS e.op,x1.av],qY res f)] ⟨⟨hc,rfl⟩,trivial⟩ ?_
   simp only [go_sem,g0,g2,g3,Nat.reduceLT,Option.map_some,go_sem_proc]
   refine jy.of TT 4000 (zJ (by kernel_rfl)) ?_
   simp only [go_sem,go_sem_proc]
   exact Le.refl _
theorem zkT (r:List Val) (e:Expr) (h:(e.op.toList == wz.toList)=false) (h2:(e.op.toList == sAt.toList)=false) (h3:(e.op.toList == vS.toList)=false) (hin:(e.op.toList == (⟨#[105,110]⟩:ByteArray).toList)=false) (x1 x2:Val) (hn:e.l.length=2)
  (hp:∀ (j:Nat) x v,e.l[j]?=some x → [x1,x2][j]?=some v → Vs r x v 0) {res:Val} {f:Int} (hc:Good Tryz.prog 81 [cS e.op,x1.av,x2.av] [] (qY res f) []):Vs r e res f:=by
 obtain ⟨vs,hvs⟩:∃ vs:List Val,vs=[x1,x2]:=⟨_,rfl⟩
 rw [← hvs] at hp
 have hn2:vs.length=e.l.length:=by rw [hvs,hn];rfl
 have hb:e.l.length ≤ 1000:=by omega
 refine Good.zg TT 4000 Tryz.func55 rfl rfl ?_
 unfold Tryz.f55
 simp only [go_sem,go_sem_proc]
 refine Lp.atP TT 4000 2 (Nat.le_of_ble_eq_true rfl) [false,false,false,false,false,true,true,false,true,true,true,false,false,false,false,false,false,true,true,true,true,true,true,true,true,true,true,true,true,true,true,true,true,true,true,true] (fun j:Nat=>e.l.length - j) (fun j=>j ≤ e.l.length) (fun j=>[(6,.sl 2 0 j),(17,cI j)]) (fun j=>[.rows 3 26 ((vs.take j).map Val.cs)]) [2] (0) (Nat.zero_le _) ?_ ?_
 ·simp only [go_sem,go_sem_proc]
  first | done | rfl
 ·rintro j i1
  rcases Nat.lt_or_ge j e.l.length with hlt | hge
  ·skip
   obtain ⟨x,hx,hm,ht,hd⟩:=vj hlt
   have hw:=zh (j:=j) (by omega)
   have hv:=List.getElem?_eq_getElem (l:=vs) (i:=j) (by omega)
   generalize vs[j]'(by omega)=v at hv
   have hmin:min j vs.length=j:=Nat.min_eq_left (by omega)
   have hall:((vs.take j).map Val.cs).all (fun y=>y.length == 3)=true:=List.all_eq_true.2 fun y hy=>by
    obtain ⟨z,_,rfl⟩:=List.mem_map.1 hy
    rfl
   have hnext:List.map Val.cs (vs.take j) ++ [[.int .i64 v.k,.int .i64 v.i,.str v.s]]=List.map Val.cs (vs.take (j + 1)):=by
    obtain ⟨g1,g2⟩:=List.getElem?_eq_some_iff.1 hv
    rw [← List.take_append_getElem g1,List.map_append,g2];rfl
   simp only [go_sem,hlt,hx,go_sem_proc]
   refine Cl.pure TT 4000 (hp j x v hx hv) rfl rfl ?_
   simp only [go_sem,hw,hmin,hall,List.length_map,List.length_take,Nat.zero_add,hnext,go_sem_proc]
   exact ⟨by omega,j + 1,[6],by omega,by omega,rfl,⟨zq.of_eq rfl,zq.of_eq rfl⟩,rfl⟩
  ·have:j=e.l.length:=by omega
   subst this
   have hk:List.take e.l.length vs=vs:=List.take_of_length_le (by omega)
   have g0:(0:Int) < ((2:Nat):Int):=by decide
   have g1:(((2:Nat):Int) > 0):=by decide
   have g2:((1:Int) < ((2:Nat):Int))=(1 < 2):=by simp
   have g3:((2:Int) < ((2:Nat):Int))=(2 < 2):=by simp
   have b1:(((2:Nat):Int) == 1)=(2 == 1):=by decide
   have b2:(((2:Nat):Int) == 2)=(2 == 2):=by decide
   have b3:(((2:Nat):Int) == 3)=(2 == 3):=by decide
   rw [hvs] at hk
   simp only [go_sem,Nat.lt_irrefl,h,h2,h3,hk,hn,hvs,b1,b2,b3,go_sem_proc]
   simp only [go_sem,hin,go_sem_proc]
   refine Dr.ofC TT (by kernel_rfl) [(81,[cS e.op,x1.av,x2.av],qY res f)] ⟨⟨hc,rfl⟩,trivial⟩ ?_
   simp only [go_sem,g0,g2,g3,Nat.reduceLT,Option.map_some,go_sem_proc]
   refine jy.of TT 4000 (zJ (by kernel_rfl)) ?_
   simp only [go_sem,go_sem_proc]
   exact Le.refl _
theorem zbb (op:ByteArray) (a b:Val):(qX op a b).2 ≠ 0 → (qX op a b).1=zeroV:=by
 unfold qX
 split
 ·intro _;rfl
 ·split
  ·intro _;rfl
  ·split
   ·intro _;rfl
   ·split
    ·intro h;exact absurd rfl h
    ·intro _;rfl
theorem YR (r:List Val) (e:Expr) (h:(e.op.toList == wz.toList)=false) (h2:(e.op.toList == sAt.toList)=false) (h3:(e.op.toList == vS.toList)=false) (hbt:(e.op.toList == (⟨#[98,101,116,119,101,101,110]⟩:ByteArray).toList)=true) (x1 x2 x3:Val) (hn:e.l.length=3)
  (hp:∀ (j:Nat) x v,e.l[j]?=some x → [x1,x2,x3][j]?=some v → Vs r x v 0):Vs r e (k6 x1 x2 x3).1 (k6 x1 x2 x3).2:=by
 have hr1:=J5 ⟨#[62,61]⟩ x1 x2
 have hr2:=J5 ⟨#[60,61]⟩ x1 x3
 have z1:=zbb ⟨#[62,61]⟩ x1 x2
 have z2:=zbb ⟨#[60,61]⟩ x1 x3
 unfold k6
 generalize qX ⟨#[62,61]⟩ x1 x2=R1 at hr1 z1
 generalize qX ⟨#[60,61]⟩ x1 x3=R2 at hr2 z2
 obtain ⟨vs,hvs⟩:∃ vs:List Val,vs=[x1,x2,x3]:=⟨_,rfl⟩
 rw [← hvs] at hp
 have hn2:vs.length=e.l.length:=by rw [hvs,hn];rfl
 have hb:e.l.length ≤ 1000:=by omega
 refine Good.zg TT 4000 Tryz.func55 rfl rfl ?_
 unfold Tryz.f55
 simp only [go_sem,go_sem_proc]
 refine Lp.atP TT 4000 2 (Nat.le_of_ble_eq_true rfl) [false,false,false,false,false,true,true,false,true,true,true,false,false,false,false,false,false,true,true,true,true,true,true,true,true,true,true,true,true,true,true,true,true,true,true,true] (fun j:Nat=>e.l.length - j) (fun j=>j ≤ e.l.length) (fun j=>[(6,.sl 2 0 j),(17,cI j)]) (fun j=>[.rows 3 26 ((vs.take j).map Val.cs)]) [2] (0) (Nat.zero_le _) ?_ ?_
 ·simp only [go_sem,go_sem_proc]
  first | done | rfl
 ·rintro j i1
  rcases Nat.lt_or_ge j e.l.length with hlt | hge
  ·skip
   obtain ⟨x,hx,hm,ht,hd⟩:=vj hlt
   have hw:=zh (j:=j) (by omega)
   have hv:=List.getElem?_eq_getElem (l:=vs) (i:=j) (by omega)
   generalize vs[j]'(by omega)=v at hv
   have hmin:min j vs.length=j:=Nat.min_eq_left (by omega)
   have hall:((vs.take j).map Val.cs).all (fun y=>y.length == 3)=true:=List.all_eq_true.2 fun y hy=>by
    obtain ⟨z,_,rfl⟩:=List.mem_map.1 hy
    rfl
   have hnext:List.map Val.cs (vs.take j) ++ [[.int .i64 v.k,.int .i64 v.i,.str v.s]]=List.map Val.cs (vs.take (j + 1)):=by
    obtain ⟨g1,g2⟩:=List.getElem?_eq_some_iff.1 hv
    rw [← List.take_append_getElem g1,List.map_append,g2];rfl
   simp only [go_sem,hlt,hx,go_sem_proc]
   refine Cl.pure TT 4000 (hp j x v hx hv) rfl rfl ?_
   simp only [go_sem,hw,hmin,hall,List.length_map,List.length_take,Nat.zero_add,hnext,go_sem_proc]
   exact ⟨by omega,j + 1,[6],by omega,by omega,rfl,⟨zq.of_eq rfl,zq.of_eq rfl⟩,rfl⟩
  ·have:j=e.l.length:=by omega
   subst this
   have hk:List.take e.l.length vs=vs:=List.take_of_length_le (by omega)
   have g0:(0:Int) < ((3:Nat):Int):=by decide
   have g1:(((3:Nat):Int) > 0):=by decide
   have g2:((1:Int) < ((3:Nat):Int))=(1 < 3):=by simp
   have g3:((2:Int) < ((3:Nat):Int))=(2 < 3):=by simp
   have b1:(((3:Nat):Int) == 1)=(3 == 1):=by decide
   have b2:(((3:Nat):Int) == 2)=(3 == 2):=by decide
   have b3:(((3:Nat):Int) == 3)=(3 == 3):=by decide
   rw [hvs] at hk
   simp only [go_sem,Nat.lt_irrefl,h,h2,h3,hk,hn,hvs,b1,b2,b3,go_sem_proc]
   simp only [go_sem,hbt,go_sem_proc]
   refine Dr.ofC TT (by kernel_rfl) [(82,[cS ⟨#[62,61]⟩,x1.av,x2.av],qY R1.1 R1.2)] ⟨⟨hr1,rfl⟩,trivial⟩ ?_
   simp only [go_sem,g0,g2,g3,Nat.reduceLT,Option.map_some,go_sem_proc]
   refine jy.of TT 4000 (zJ (by kernel_rfl)) ?_
   by_cases e1:R1.2=0
   case neg =>
    have e1':(R1.2 != 0)=true:=by simp [e1]
    simp only [go_sem,e1',e1,go_sem_proc]
    rw [z1 e1]
    exact Le.refl _
   have e1':(R1.2 != 0)=false:=by simp [e1]
   simp only [go_sem,e1',e1,go_sem_proc]
   refine Dr.ofC TT (by kernel_rfl) [(82,[cS ⟨#[60,61]⟩,x1.av,x3.av],qY R2.1 R2.2)] ⟨⟨hr2,rfl⟩,trivial⟩ ?_
   simp only [go_sem,g0,g2,g3,Nat.reduceLT,Option.map_some,go_sem_proc]
   refine jy.of TT 4000 (zJ (by kernel_rfl)) ?_
   by_cases e2:R2.2=0
   case neg =>
    have e2':(R2.2 != 0)=true:=by simp [e2]
    simp only [go_sem,e2',e2,go_sem_proc]
    rw [z2 e2]
    exact Le.refl _
   have e2':(R2.2 != 0)=false:=by simp [e2]
   simp only [go_sem,e2',e2,go_sem_proc]
   refine Cl.pure TT 4000 (zgf [R1.1,R2.1] (by simp)) rfl rfl ?_
   simp only [go_sem,go_sem_proc]
   exact Le.refl _
theorem zlH (r:List Val) (e:Expr) (h:(e.op.toList == wz.toList)=false) (h2:(e.op.toList == sAt.toList)=false) (h3:(e.op.toList == vS.toList)=false) (hin:(e.op.toList == (⟨#[105,110]⟩:ByteArray).toList)=true) (x1:Val) (w:List Val) (hw1:1 ≤ w.length) (hb0:w.length ≤ 999) (hn:e.l.length=w.length + 1)
  (hp:∀ (j:Nat) x v,e.l[j]?=some x → (x1 :: w)[j]?=some v → Vs r x v 0):Vs r e (inS x1 w).1 (inS x1 w).2:=by
 have hI:=zlJ x1 w (by omega)
 generalize inS x1 w=R at hI
 obtain ⟨vs,hvs⟩:∃ vs:List Val,vs=x1 :: w:=⟨_,rfl⟩
 rw [← hvs] at hp
 have hn2:vs.length=e.l.length:=by rw [hvs,hn];rfl
 have hb:e.l.length ≤ 1000:=by omega
 refine Good.zg TT 4000 Tryz.func55 rfl rfl ?_
 unfold Tryz.f55
 simp only [go_sem,go_sem_proc]
 refine Lp.atP TT 4000 2 (Nat.le_of_ble_eq_true rfl) [false,false,false,false,false,true,true,false,true,true,true,false,false,false,false,false,false,true,true,true,true,true,true,true,true,true,true,true,true,true,true,true,true,true,true,true] (fun j:Nat=>e.l.length - j) (fun j=>j ≤ e.l.length) (fun j=>[(6,.sl 2 0 j),(17,cI j)]) (fun j=>[.rows 3 26 ((vs.take j).map Val.cs)]) [2] (0) (Nat.zero_le _) ?_ ?_
 ·simp only [go_sem,go_sem_proc]
  first | done | rfl
 ·rintro j i1
  rcases Nat.lt_or_ge j e.l.length with hlt | hge
  ·skip
   obtain ⟨x,hx,hm,ht,hd⟩:=vj hlt
   have hw:=zh (j:=j) (by omega)
   have hv:=List.getElem?_eq_getElem (l:=vs) (i:=j) (by omega)
   generalize vs[j]'(by omega)=v at hv
   have hmin:min j vs.length=j:=Nat.min_eq_left (by omega)
   have hall:((vs.take j).map Val.cs).all (fun y=>y.length == 3)=true:=List.all_eq_true.2 fun y hy=>by
    obtain ⟨z,_,rfl⟩:=List.mem_map.1 hy
    rfl
   have hnext:List.map Val.cs (vs.take j) ++ [[.int .i64 v.k,.int .i64 v.i,.str v.s]]=List.map Val.cs (vs.take (j + 1)):=by
    obtain ⟨g1,g2⟩:=List.getElem?_eq_some_iff.1 hv
    rw [← List.take_append_getElem g1,List.map_append,g2];rfl
   simp only [go_sem,hlt,hx,go_sem_proc]
   refine Cl.pure TT 4000 (hp j x v hx hv) rfl rfl ?_
   simp only [go_sem,hw,hmin,hall,List.length_map,List.length_take,Nat.zero_add,hnext,go_sem_proc]
   exact ⟨by omega,j + 1,[6],by omega,by omega,rfl,⟨zq.of_eq rfl,zq.of_eq rfl⟩,rfl⟩
  ·have:j=e.l.length:=by omega
   subst this
   have hk:List.take e.l.length vs=vs:=List.take_of_length_le (by omega)
   rw [hvs] at hk
   rw [hn] at hk
   have g0:(0:Int) < ((w.length + 1:Nat):Int):=by omega
   have b1:(((w.length + 1:Nat):Int) == 1)=false:=by rw [beq_eq_false_iff_ne];omega
   have b3:((w.length + 1:Nat):Int) > 0:=by omega
   have hbt:(e.op.toList == (⟨#[98,101,116,119,101,101,110]⟩:ByteArray).toList)=false:=by rw [eq_of_beq hin];exact (zF [105,110] [98,101,116,119,101,101,110]).trans rfl
   have hino:(e.op.toList != (⟨#[105,110]⟩:ByteArray).toList)=false:=by simp [eq_of_beq hin]
   have hk5:List.take w.length (List.map Val.cs w)=List.map Val.cs w:=List.take_of_length_le (by simp)
   have c1:1 ≤ w.length + 1:=by omega
   have c2:1 + w.length ≤ w.length + 1:=by omega
   have c3:(1:Int) ≤ ((w.length + 1:Nat):Int):=by omega
   cases b2:(((w.length + 1:Nat):Int) == 2)
   ·cases b4:(((w.length + 1:Nat):Int) == 3)
    ·simp only [go_sem,Nat.lt_irrefl,h,h2,h3,hk,hn,hvs,b1,b3,hin,hino,hbt,b2,b4,go_sem_proc]
     refine Dr.ofC TT (by kernel_rfl) [(84,[x1.av,.c (qk w)],qY R.1 R.2)] ⟨⟨hI,rfl⟩,trivial⟩ ?_
     simp only [go_sem,g0,c1,c2,c3,hk5,Nat.reduceLT,Option.map_some,Nat.zero_add,Nat.add_sub_cancel,Nat.le_refl,true_and,go_sem_proc]
     refine jy.of TT 4000 (zJ (by kernel_rfl)) ?_
     simp only [go_sem,go_sem_proc]
     exact Le.refl _
    ·simp only [go_sem,Nat.lt_irrefl,h,h2,h3,hk,hn,hvs,b1,b3,hin,hino,hbt,b2,b4,go_sem_proc]
     refine Dr.ofC TT (by kernel_rfl) [(84,[x1.av,.c (qk w)],qY R.1 R.2)] ⟨⟨hI,rfl⟩,trivial⟩ ?_
     simp only [go_sem,g0,c1,c2,c3,hk5,Nat.reduceLT,Option.map_some,Nat.zero_add,Nat.add_sub_cancel,Nat.le_refl,true_and,go_sem_proc]
     refine jy.of TT 4000 (zJ (by kernel_rfl)) ?_
     simp only [go_sem,go_sem_proc]
     exact Le.refl _
   ·have b4:(((w.length + 1:Nat):Int) == 3)=false:=by
     have:=eq_of_beq b2
     rw [beq_eq_false_iff_ne];omega
    simp only [go_sem,Nat.lt_irrefl,h,h2,h3,hk,hn,hvs,b1,b3,hin,hino,hbt,b2,b4,go_sem_proc]
    refine Dr.ofC TT (by kernel_rfl) [(84,[x1.av,.c (qk w)],qY R.1 R.2)] ⟨⟨hI,rfl⟩,trivial⟩ ?_
    simp only [go_sem,g0,c1,c2,c3,hk5,Nat.reduceLT,Option.map_some,Nat.zero_add,Nat.add_sub_cancel,Nat.le_refl,true_and,go_sem_proc]
    refine jy.of TT 4000 (zJ (by kernel_rfl)) ?_
    simp only [go_sem,go_sem_proc]
    exact Le.refl _
end Go.Ev
end
section
open Go Go.Proofs Go.RowKit
namespace Go.Ev
open Go.Proofs.YtifdakibkadfiaaGreatDoor (GV zx VS zY kD)
theorem Zv {op:ByteArray} {l:List ByteArray} (h:jx op l=true):∃ t,t ∈ l ∧ op=t:=by
 obtain ⟨t,ht,he⟩:=List.any_eq_true.1 h
 exact ⟨t,ht,Go.Proofs.YtifdakibkadfiaaGreatDoor.zO (eq_of_beq he)⟩
theorem zH (l m:List UInt8) (h:bsq l m=false):((⟨l.toArray⟩:ByteArray).toList == (⟨m.toArray⟩:ByteArray).toList)=false:=(zF l m).trans h
theorem zhE (op:ByteArray) (x:Val) (h:jx op zk8=true):KK op [x]=zmb op x:=by
 obtain ⟨t,ht,rfl⟩:=Zv h
 simp only [zk8,List.mem_cons,List.not_mem_nil,or_false] at ht
 unfold zmb
 rcases ht with rfl | rfl | rfl | rfl
 ·rw [if_pos (beq_self_eq_true _)];exact wv [110,101,103] [x]
 ·rw [if_neg (by rw [zH _ _ rfl];simp),if_pos (beq_self_eq_true _)];exact wv [110,111,116] [x]
 ·rw [if_neg (by rw [zH _ _ rfl];simp),if_neg (by rw [zH _ _ rfl];simp),if_pos (beq_self_eq_true _)];exact wv [105,115,110,117,108,108] [x]
 ·rw [if_neg (by rw [zH _ _ rfl];simp),if_neg (by rw [zH _ _ rfl];simp),if_neg (by rw [zH _ _ rfl];simp),if_pos (beq_self_eq_true _)];exact wv [110,111,116,110,117,108,108] [x]
theorem zjP {op:ByteArray} (h:∀ t,t ∈ JZ → (op.toList == t.toList)=false):jx op JZ=false:=List.any_eq_false.2 fun t ht=>by rw [h t ht];simp
theorem zi9 (op:ByteArray) (x y:Val) (h:jx op zjL=true ∨ jx op JS=true ∨ jx op JZ=true):KK op [x,y]=zl6 op x y:=by
 unfold zl6
 rcases h with h | h | h
 ·obtain ⟨t,ht,rfl⟩:=Zv h
  simp only [zjL,List.mem_cons,List.not_mem_nil,or_false] at ht
  rcases ht with rfl | rfl | rfl
  ·rw [if_pos (beq_self_eq_true _)];exact wv [97,110,100] [x,y]
  ·rw [if_neg (by rw [zH _ _ rfl];simp),if_pos (beq_self_eq_true _)];exact wv [111,114] [x,y]
  ·have hr:jx (⟨#[108,105,107,101]⟩:ByteArray) JZ=false:=zjP fun t ht=>by
    simp only [JZ,List.mem_cons,List.not_mem_nil,or_false] at ht
    rcases ht with rfl | rfl | rfl | rfl | rfl | rfl <;> exact zH [108,105,107,101] _ rfl
   rw [if_neg (by rw [zH _ _ rfl];simp),if_neg (by rw [zH _ _ rfl];simp),if_neg (by rw [zH _ _ rfl];simp),hr,if_neg (by simp),if_pos (beq_self_eq_true _)];exact wv [108,105,107,101] [x,y]
 ·obtain ⟨t,ht,rfl⟩:=Zv h
  simp only [JS,List.mem_cons,List.not_mem_nil,or_false] at ht
  have key:∀ l:List UInt8,(∀ t,t ∈ JZ → (l == t.data.toList)=false) → jx (⟨l.toArray⟩:ByteArray) JZ=false:=fun l hl=>zjP fun t ht=>by
   rw [Go.ByteArray.toList_eq,Go.ByteArray.toList_eq];exact hl t ht
  have kr:∀ l:List UInt8,l ∈ [[43],[45],[42],[47],[(37:UInt8)],[124,124]] → jx (⟨l.toArray⟩:ByteArray) JZ=false:=fun l hl=>key l fun t ht=>by
   simp only [JZ,List.mem_cons,List.not_mem_nil,or_false] at ht hl
   rcases hl with rfl | rfl | rfl | rfl | rfl | rfl <;> rcases ht with rfl | rfl | rfl | rfl | rfl | rfl <;> rfl
  rcases ht with rfl | rfl | rfl | rfl | rfl | rfl
  ·rw [if_neg (by rw [zH _ _ rfl];simp),if_neg (by rw [zH _ _ rfl];simp),if_neg (by rw [zH _ _ rfl];simp),kr [43] (by simp),if_neg (by simp),if_neg (by rw [zH _ _ rfl];simp)];exact wv [43] [x,y]
  ·rw [if_neg (by rw [zH _ _ rfl];simp),if_neg (by rw [zH _ _ rfl];simp),if_neg (by rw [zH _ _ rfl];simp),kr [45] (by simp),if_neg (by simp),if_neg (by rw [zH _ _ rfl];simp)];exact wv [45] [x,y]
  ·rw [if_neg (by rw [zH _ _ rfl];simp),if_neg (by rw [zH _ _ rfl];simp),if_neg (by rw [zH _ _ rfl];simp),kr [42] (by simp),if_neg (by simp),if_neg (by rw [zH _ _ rfl];simp)];exact wv [42] [x,y]
  ·rw [if_neg (by rw [zH _ _ rfl];simp),if_neg (by rw [zH _ _ rfl];simp),if_neg (by rw [zH _ _ rfl];simp),kr [47] (by simp),if_neg (by simp),if_neg (by rw [zH _ _ rfl];simp)];exact wv [47] [x,y]
  ·rw [if_neg (by rw [zH _ _ rfl];simp),if_neg (by rw [zH _ _ rfl];simp),if_neg (by rw [zH _ _ rfl];simp),kr [37] (by simp),if_neg (by simp),if_neg (by rw [zH _ _ rfl];simp)];exact wv [37] [x,y]
  ·rw [if_neg (by rw [zH _ _ rfl];simp),if_neg (by rw [zH _ _ rfl];simp),if_pos (beq_self_eq_true _)];exact wv [124,124] [x,y]
 ·have hr:=h
  obtain ⟨t,ht,rfl⟩:=Zv h
  simp only [JZ,List.mem_cons,List.not_mem_nil,or_false] at ht
  rcases ht with rfl | rfl | rfl | rfl | rfl | rfl
  ·rw [if_neg (by rw [zH _ _ rfl];simp),if_neg (by rw [zH _ _ rfl];simp),if_neg (by rw [zH _ _ rfl];simp),if_pos hr];exact wv [61] [x,y]
  ·rw [if_neg (by rw [zH _ _ rfl];simp),if_neg (by rw [zH _ _ rfl];simp),if_neg (by rw [zH _ _ rfl];simp),if_pos hr];exact wv [60,62] [x,y]
  ·rw [if_neg (by rw [zH _ _ rfl];simp),if_neg (by rw [zH _ _ rfl];simp),if_neg (by rw [zH _ _ rfl];simp),if_pos hr];exact wv [60] [x,y]
  ·rw [if_neg (by rw [zH _ _ rfl];simp),if_neg (by rw [zH _ _ rfl];simp),if_neg (by rw [zH _ _ rfl];simp),if_pos hr];exact wv [60,61] [x,y]
  ·rw [if_neg (by rw [zH _ _ rfl];simp),if_neg (by rw [zH _ _ rfl];simp),if_neg (by rw [zH _ _ rfl];simp),if_pos hr];exact wv [62] [x,y]
  ·rw [if_neg (by rw [zH _ _ rfl];simp),if_neg (by rw [zH _ _ rfl];simp),if_neg (by rw [zH _ _ rfl];simp),if_pos hr];exact wv [62,61] [x,y]
theorem zar {e:Expr} (h:(e.op.toList == sAt.toList)=true):(e.op.toList == wz.toList)=false:=by
 rw [eq_of_beq h];exact (zF [97,116] [108,105,116]).trans rfl
def Yx (e:Expr):Prop:=((e.op.toList == sAt.toList)=true → e.l=[]) ∧ ((e.op.toList == sAt.toList)=false → vg e.op e.l.length=true ∧ (e.op.toList == Ws.toList)=false ∧ (e.op.toList == ya.toList)=false)
theorem zkp (r:List Val) (hr:∀ v,v ∈ r → I64 v.i ∧ v.s.size ≤ 100000) (e:Expr) (hn:wtE e ≤ 9000000) (ha:Expr.All (fun x=>zkj r.length x ∧ Yx x) e):Vs r e (z7 r e).1 (z7 r e).2:=by
 revert hn ha
 induction e using Expr.ind with
 | h e ih =>
 intro hn ha
 have ha0:=ha
 rw [Expr.vu] at ha
 obtain ⟨⟨⟨hin,hlw,hel⟩,hpa,hpn⟩,hs⟩:=ha
 have hwe:=ze9 e
 rw [zbt]
 cases h2:(e.op.toList == sAt.toList)
 case true =>
  have h1:(e.op.toList == wz.toList)=false:=zar h2
  rw [h1,if_neg (by simp),if_pos rfl]
  obtain ⟨b1,b2⟩:=hin h2
  obtain ⟨j,hj⟩:∃ j:Nat,e.v.i=j:=⟨e.v.i.toNat,by omega⟩
  have hjr:j < r.length:=by omega
  have hg:=List.getElem?_eq_getElem hjr
  have hat:atF r e.v=(r[j],0):=by unfold atF;rw [hj,show ((j:Nat):Int).toNat=j from rfl,hg]
  rw [hat]
  exact zlw r e h1 h2 (hpa h2) hj hg
 obtain ⟨hpb,hcol,hstar⟩:=hpn h2
 cases h1:(e.op.toList == wz.toList)
 case true =>
  rw [if_pos rfl]
  have hz:jx e.op X9=true:=List.any_eq_true.2 ⟨_,.head _,h1⟩
  unfold vg at hpb
  rw [hz,if_pos rfl] at hpb
  exact zkC r e h1 (List.eq_nil_of_length_eq_zero (beq_iff_eq.1 hpb))
 rw [if_neg (by simp),if_neg (by simp)]
 rw [h1,h2,if_neg (by simp),if_neg (by simp)] at hwe
 have part:∀ x,x ∈ e.l → Vs r x (z7 r x).1 (z7 r x).2:=fun x hx=>ih x hx (by have:=J4 hx;omega) (hs x hx)
 have fine:∀ x,x ∈ e.l → zem (wtE x) (z7 r x):=fun x hx=>(WI r hr x (by have:=J4 hx;omega) ((hs x hx).imp fun y hy=>hy.1)).1
 by_cases h0:(xc r e.l).2=0
 case neg =>
  rw [if_pos h0]
  obtain ⟨k,x,hx,hf,hl⟩:=Q0 r e.l h0
  have px:=part x (List.mem_of_getElem? hx)
  rw [← hf]
  refine zk5 r e hel (e.l.map fun x=>(z7 r x).1) (by simp) k (List.getElem?_eq_some_iff.1 hx).1 (fun j y v hj hy hv=>?_) hx (by rw [hf];exact h0) px
  rw [List.getElem?_map,hy] at hv
  cases hv
  rw [← hl j y hj hy]
  exact part y (List.mem_of_getElem? hy)
 rw [if_neg (by simp [h0])]
 obtain ⟨hvs,hall⟩:=Wr r e.l h0
 rw [hvs]
 have pp:∀ (j:Nat) x v,e.l[j]?=some x → (e.l.map fun x=>(z7 r x).1)[j]?=some v → Vs r x v 0:=fun j x v hx hv=>by
  rw [List.getElem?_map,hx] at hv
  cases hv
  rw [← hall x (List.mem_of_getElem? hx)]
  exact part x (List.mem_of_getElem? hx)
 have hvl:(e.l.map fun x=>(z7 r x).1).length=e.l.length:=by simp
 have hvi:∀ v,v ∈ (e.l.map fun x=>(z7 r x).1) → I64 v.i:=fun v hv=>by
  obtain ⟨x,hx,rfl⟩:=List.mem_map.1 hv
  exact (fine x hx).1
 have hvs2:∀ v,v ∈ (e.l.map fun x=>(z7 r x).1) → v.s.size ≤ 10000000:=fun v hv=>by
  obtain ⟨x,hx,rfl⟩:=List.mem_map.1 hv
  have h3:=(fine x hx).2
  have h4:=J4 hx
  omega
 generalize (e.l.map fun x=>(z7 r x).1)=vs at hvl pp hvi hvs2
 cases h3:(e.op.toList == vS.toList)
 case true =>
  rw [if_pos rfl]
  exact zhQ r e h1 h2 h3 hel vs hvl pp (zh6 e.name vs (by omega) hvi hvs2)
 rw [if_neg (by simp)]
 have hz:jx e.op X9=false:=by
  rw [show jx e.op X9=((e.op.toList == wz.toList) || ((e.op.toList == Ws.toList) || ((e.op.toList == ya.toList) || false))) from rfl,h1,hcol,hstar];rfl
 unfold vg at hpb
 rw [hz,if_neg (by simp)] at hpb
 cases ho:jx e.op zk8
 case true =>
  rw [ho,if_pos rfl] at hpb
  have hl1:e.l.length=1:=beq_iff_eq.1 hpb
  obtain ⟨x,rfl⟩:∃ x,vs=[x]:=by
   match vs,(by omega:vs.length=1) with
   | [x],_=>exact ⟨x,rfl⟩
  rw [zhE e.op x ho]
  exact zkk r e h1 h2 h3 x hl1 pp (zjZ e.op x (hvi x (by simp)))
 rw [ho,if_neg (by simp)] at hpb
 cases ht:(jx e.op zjL || jx e.op JS || jx e.op JZ)
 case true =>
  rw [ht,if_pos rfl] at hpb
  have hl2:e.l.length=2:=beq_iff_eq.1 hpb
  obtain ⟨x,y,rfl⟩:∃ x y,vs=[x,y]:=by
   match vs,(by omega:vs.length=2) with
   | [x,y],_=>exact ⟨x,y,rfl⟩
  have hor:jx e.op zjL=true ∨ jx e.op JS=true ∨ jx e.op JZ=true:=by
   simp only [Bool.or_eq_true] at ht
   rcases ht with (h | h) | h
   ·exact .inl h
   ·exact .inr (.inl h)
   ·exact .inr (.inr h)
  rw [zi9 e.op x y hor]
  have hnin:(e.op.toList == (⟨#[105,110]⟩:ByteArray).toList)=false:=by
   rcases hor with h | h | h
   all_goals
    obtain ⟨t,ht2,he⟩:=Zv h
    rw [he]
    simp only [zjL,JS,JZ,List.mem_cons,List.not_mem_nil,or_false] at ht2
   ·rcases ht2 with rfl | rfl | rfl <;> exact zH _ [105,110] rfl
   ·rcases ht2 with rfl | rfl | rfl | rfl | rfl | rfl <;> exact zH _ [105,110] rfl
   ·rcases ht2 with rfl | rfl | rfl | rfl | rfl | rfl <;> exact zH _ [105,110] rfl
  exact zkT r e h1 h2 h3 hnin x y hl2 pp (zkO e.op x y (hvi x (by simp)) (hvi y (by simp)) (hvs2 x (by simp)) (hvs2 y (by simp)))
 rw [ht,if_neg (by simp)] at hpb
 cases hbt:(e.op.toList == (⟨#[98,101,116,119,101,101,110]⟩:ByteArray).toList)
 case true =>
  rw [hbt,if_pos rfl] at hpb
  have hl3:e.l.length=3:=beq_iff_eq.1 hpb
  obtain ⟨x,y,z,rfl⟩:∃ x y z,vs=[x,y,z]:=by
   match vs,(by omega:vs.length=3) with
   | [x,y,z],_=>exact ⟨x,y,z,rfl⟩
  have hw:KK e.op [x,y,z]=k6 x y z:=by
   rw [Go.Proofs.YtifdakibkadfiaaGreatDoor.zO (eq_of_beq hbt)];exact wv [98,101,116,119,101,101,110] [x,y,z]
  rw [hw]
  exact YR r e h1 h2 h3 hbt x y z hl3 pp
 rw [hbt,if_neg (by simp)] at hpb
 cases hi2:(e.op.toList == (⟨#[105,110]⟩:ByteArray).toList)
 case false =>
  rw [hi2,if_neg (by simp)] at hpb
  rw [h3] at hpb;cases hpb
 rw [hi2,if_pos rfl] at hpb
 have hl4:2 ≤ e.l.length:=of_decide_eq_true hpb
 match vs,hvl,pp,hvi with
 | [],hvl,_,_=>simp at hvl;omega
 | x :: w,hvl,pp,hvi =>
  have hw:KK e.op (x :: w)=inS x w:=by
   rw [Go.Proofs.YtifdakibkadfiaaGreatDoor.zO (eq_of_beq hi2)];exact wv [105,110] (x :: w)
  rw [hw]
  simp only [List.length_cons] at hvl
  exact zlH r e h1 h2 h3 hi2 x w (by omega) (by omega) hvl.symm pp
end Go.Ev
end
