import Derived.Test.YtifdakibkadfiaaGreatDoorMe2
set_option linter.all false
set_option maxRecDepth 100000
set_option maxHeartbeats 8000000
section
open Go Go.Proofs
namespace Go.Ev
def okE (b:Bool):Int:=if b then 0 else 1
theorem yu (l:List Val) (hi:∀ x,x ∈ l → I64 x.i):Good Tryz.prog 180 [.c (qk l)] [] (cI (okE (l.all Val.ok))) []:=by
 refine Good.bound (xs:=l.map Val.cs) (List.mem_singleton.2 rfl) fun hl=>?_
 rw [List.length_map] at hl
 refine Good.zg TT 4000 Tryz.func180 rfl rfl ?_
 unfold Tryz.f180
 simp only [go_sem,go_sem_proc]
 refine Lp.fit TT 4000 0 (Nat.le_refl _) (fun j:Nat=>l.length - j) (fun j=>j ≤ l.length ∧ (l.take j).all Val.ok=true)
  (fun j=>⟨[.c (qk l),.und,cI 0,.und,.dead,.dead,.c (qk l),cI l.length,cI j] ++ List.replicate 9 .dead,[]⟩) 0 ⟨Nat.zero_le _,by simp⟩ ?_ ?_
 ·simp only [go_sem,go_sem_proc]
 ·rintro j ⟨i1,i2⟩
  rcases Nat.lt_or_ge j l.length with hlt | hge
  ·obtain ⟨x,hx,hm,ht,hd⟩:=vj hlt
   have hw:=zh (j:=j) (by omega)
   simp only [go_sem,hlt,hx,go_sem_proc]
   refine Cl.pure TT 4000 (wP x (hi x hm)) rfl rfl ?_
   simp only [go_sem,hw,go_sem_proc]
   cases hk:x.ok
   ·simp only [go_sem,hk,Bool.false_eq_true,go_sem_proc]
    have:l.all Val.ok=false:=List.all_eq_false.2 ⟨x,hm,by rw [hk];simp⟩
    exact Le.of_eq (congrArg cI (by rw [this];rfl))
   ·simp only [go_sem,hk,hw,go_sem_proc]
    exact ⟨j + 1,by omega,⟨by omega,by rw [ht,List.all_append,i2];simp [hk]⟩,zq.of_eq rfl⟩
  ·have:j=l.length:=by omega
   subst this
   rw [List.take_length] at i2
   simp only [go_sem,Nat.lt_irrefl,go_sem_proc]
   exact Le.of_eq (congrArg cI (by rw [i2];rfl))
theorem kq (b:Bool):Good Tryz.prog 88 [cB b] [] (zZ b).av []:=by
 refine Good.zg TT 4000 Tryz.func88 rfl rfl ?_
 unfold Tryz.f88
 cases b <;> simp only [go_sem,go_sem_proc]
 ·exact Le.refl _
 ·exact Le.refl _
def lgL (d:Int):List Val → Val → Bool → Val × Int
 | [],out,_=>(out,0)
 | v :: l,out,dec=>if v.k ≠ 0 ∧ v.k ≠ 1 then (zeroV,20) else if v.k=0 then lgL d l (if dec then out else zeroV) dec else if v.i=d then lgL d l v true else lgL d l out dec
def lgS (d:Int) (l:List Val):Val × Int:=if l.all Val.ok then lgL d l (zZ (d == 0)) false else (zeroV,1)
theorem VW (d:Int) (l:List Val) (hi:∀ x,x ∈ l → I64 x.i):Good Tryz.prog 177 [cI d,.c (qk l)] [] (qY (lgS d l).1 (lgS d l).2) []:=by
 refine Good.bound (xs:=l.map Val.cs) (List.mem_cons_of_mem _ (List.mem_singleton.2 rfl)) fun hl=>?_
 rw [List.length_map] at hl
 refine Good.zg TT 4000 Tryz.func177 rfl rfl ?_
 unfold Tryz.f177
 simp only [go_sem,go_sem_proc]
 refine Cl.pure TT 4000 (yu l hi) rfl rfl ?_
 unfold lgS
 cases hk:l.all Val.ok
 ·simp only [go_sem,hk,okE,Bool.false_eq_true,go_sem_proc]
  exact Le.refl _
 simp only [go_sem,hk,okE,go_sem_proc]
 refine Cl.pure TT 4000 (kq (d == 0)) rfl rfl ?_
 simp only [go_sem,go_sem_proc]
 refine Lp.at TT 4000 2 (Nat.le_of_ble_eq_true rfl) [false,false,false,false,false,true,false,false,true,false,true,false,false,false,false,false,false,false,false,false,false,false,true,true,true,true,true,true,true,true,true,true,true,true,true,true,true,true,true,true,true,true,true,true,true,true,true,true,true,true] (fun a:Nat × Val × Bool=>l.length - a.1) (fun a=>a.1 ≤ l.length ∧ lgL d l (zZ (d == 0)) false=lgL d (l.drop a.1) a.2.1 a.2.2) (fun a=>[(8,cB a.2.2),(22,cI a.1)]) (fun a=>[(1,.box [cI a.2.1.k,cI a.2.1.i,cS a.2.1.s])]) ((0,zZ (d == 0),false)) (⟨Nat.zero_le _,rfl⟩) ?_ ?_
 ·simp only [go_sem,go_sem_proc]
 ·rintro ⟨j,out,dec⟩ ⟨i1,i2⟩
  simp only at i1 i2
  rcases Nat.lt_or_ge j l.length with hlt | hge
  ·obtain ⟨x,hx,hm,ht,hd⟩:=vj hlt
   have hw:=zh (j:=j) (by omega)
   rw [hd,lgL] at i2
   simp only [go_sem,hlt,hx,go_sem_proc]
   by_cases c0:x.k=0
   ·have c0':(x.k == 0)=true:=by simp [c0]
    have c0n:(x.k != 0)=false:=by simp [c0]
    cases dec
    ·simp only [go_sem,c0',c0n,c0,go_sem_proc]
     exact ⟨(j + 1,zeroV,false),by simp only;omega,⟨by simp only;omega,by simp only;rw [i2];simp [c0]⟩,by simp only [go_sem,hw,go_sem_proc];rfl⟩
    ·simp only [go_sem,c0',c0n,c0,go_sem_proc]
     exact ⟨(j + 1,out,true),by simp only;omega,⟨by simp only;omega,by simp only;rw [i2];simp [c0]⟩,by simp only [go_sem,hw,go_sem_proc]⟩
   ·have c0':(x.k == 0)=false:=by simp [c0]
    have c0n:(x.k != 0)=true:=by simp [c0]
    by_cases c1:x.k=1
    ·have c1n:(x.k != 1)=false:=by simp [c1]
     cases hxi:(x.i == d)
     ·simp only [go_sem,c0',c0n,c1n,hxi,c0,go_sem_proc]
      exact ⟨(j + 1,out,dec),by simp only;omega,⟨by simp only;omega,by simp only;rw [i2];simp [c1,beq_eq_false_iff_ne.1 hxi]⟩,by simp only [go_sem,hw,go_sem_proc]⟩
     ·simp only [go_sem,c0',c0n,c1n,hxi,c0,go_sem_proc]
      exact ⟨(j + 1,x,true),by simp only;omega,⟨by simp only;omega,by simp only;rw [i2];simp [c1,eq_of_beq hxi]⟩,by simp only [go_sem,hw,go_sem_proc]⟩
    ·have c1n:(x.k != 1)=true:=by simp [c1]
     simp only [go_sem,c0',c0n,c1n,c0,go_sem_proc]
     rw [i2];simp only [c0,c1,ne_eq,not_false_eq_true,and_self,if_true]
     exact Le.refl _
  ·have:j=l.length:=by omega
   subst this
   rw [List.drop_of_length_le (Nat.le_refl _)] at i2
   simp only [go_sem,Nat.lt_irrefl,i2,lgL,go_sem_proc]
   exact Le.refl _
theorem KR (l:List Val) (hi:∀ x,x ∈ l → I64 x.i):Good Tryz.prog 138 [.c (qk l)] [] (qY (lgS 0 l).1 (lgS 0 l).2) []:=by
 refine Good.zg TT 4000 Tryz.func138 rfl rfl ?_
 unfold Tryz.f138
 simp only [go_sem,go_sem_proc]
 (refine Cl.pure TT 4000 (VW 0 l hi) rfl rfl ?_;simp only [go_sem,go_sem_proc])
 exact Le.refl _
theorem zbH (l:List Val) (hi:∀ x,x ∈ l → I64 x.i):Good Tryz.prog 140 [.c (qk l)] [] (qY (lgS 1 l).1 (lgS 1 l).2) []:=by
 refine Good.zg TT 4000 Tryz.func140 rfl rfl ?_
 unfold Tryz.f140
 simp only [go_sem,go_sem_proc]
 (refine Cl.pure TT 4000 (VW 1 l hi) rfl rfl ?_;simp only [go_sem,go_sem_proc])
 exact Le.refl _
def zec (v:Val):Val × Int:=let p:=lgS 0 [v];if p.2=0 ∧ p.1.k=1 then (⟨1,IntKind.wrap .i64 (1 - p.1.i),p.1.s⟩,0) else p
theorem zel (v:Val) (hi:I64 v.i):Good Tryz.prog 134 [v.av] [] (qY (zec v).1 (zec v).2) []:=by
 refine Good.zg TT 4000 Tryz.func134 rfl rfl ?_
 unfold Tryz.f134
 simp only [go_sem,go_sem_proc]
 (refine Cl.pure TT 4000 (KR [v] (fun x hx=>by rw [List.mem_singleton.1 hx];exact hi)) rfl rfl ?_;simp only [go_sem,go_sem_proc])
 unfold zec
 generalize lgS 0 [v]=p
 obtain ⟨w,f⟩:=p
 by_cases c1:f=0
 ·have c1':(f == 0)=true:=by simp [c1]
  by_cases c2:w.k=1
  ·have c2':(w.k == 1)=true:=by simp [c2]
   simp only [go_sem,c1',c2',c1,c2,go_sem_proc]
   exact Le.refl _
  ·have c2':(w.k == 1)=false:=by simp [c2]
   simp only [go_sem,c1',c2',c1,c2,go_sem_proc]
   exact Le.refl _
 ·have c1':(f == 0)=false:=by simp [c1]
  simp only [go_sem,c1',c1,go_sem_proc]
  exact Le.refl _
def zmC (op:ByteArray) (n:Int):Option Bool:=
 if op.toList == (⟨#[61]⟩:ByteArray).toList then some (n == 0)
 else if op.toList == (⟨#[60,62]⟩:ByteArray).toList then some (!(n == 0))
 else if op.toList == (⟨#[60]⟩:ByteArray).toList then some (decide (n < 0))
 else if op.toList == (⟨#[62,61]⟩:ByteArray).toList then some (!decide (n < 0))
 else if op.toList == (⟨#[62]⟩:ByteArray).toList then some (decide (n > 0))
 else if op.toList == (⟨#[60,61]⟩:ByteArray).toList then some (!decide (n > 0))
 else none
def qX (op:ByteArray) (a b:Val):Val × Int:=if (a.ok && b.ok)=false then (zeroV,1) else match zmC op (a.cmp b) with
 | none=>(zeroV,1)
 | some is=>if a.k=0 ∨ b.k=0 then (zeroV,0) else if a.k=b.k then (zZ is,0) else (zeroV,20)
theorem Zu (op:ByteArray) (a b:Val) (ha:I64 a.i) (hb:I64 b.i):Good Tryz.prog 147 [cS op,a.av,b.av] [] (qY (qX op a b).1 (qX op a b).2) []:=by
 refine Good.zg TT 4000 Tryz.func147 rfl rfl ?_
 unfold Tryz.f147
 simp only [go_sem,go_sem_proc]
 refine Cl.pure TT 4000 (yu [a,b] (fun x hx=>by
  simp only [List.mem_cons,List.not_mem_nil,or_false] at hx
  rcases hx with rfl | rfl
  ·exact ha
  ·exact hb)) rfl rfl ?_
 have hall:List.all [a,b] Val.ok=(a.ok && b.ok):=by simp
 rw [hall]
 unfold qX
 cases hk:(a.ok && b.ok)
 ·simp only [go_sem,okE,Bool.false_eq_true,go_sem_proc]
  exact Le.refl _
 simp only [go_sem,okE,go_sem_proc]
 refine Cl.pure TT 4000 (JA a b) rfl rfl ?_
 unfold zmC
 generalize a.cmp b=n
 cases o1:(op.toList == (⟨#[61]⟩:ByteArray).toList)
 ·skip
  cases o2:(op.toList == (⟨#[60,62]⟩:ByteArray).toList)
  ·skip
   cases o3:(op.toList == (⟨#[60]⟩:ByteArray).toList)
   ·skip
    cases o4:(op.toList == (⟨#[62,61]⟩:ByteArray).toList)
    ·skip
     cases o5:(op.toList == (⟨#[62]⟩:ByteArray).toList)
     ·skip
      cases o6:(op.toList == (⟨#[60,61]⟩:ByteArray).toList)
      ·skip
       simp only [go_sem,o1,o2,o3,o4,o5,o6,Bool.false_eq_true,go_sem_proc]
       exact Le.refl _
      ·simp only [go_sem,o1,o2,o3,o4,o5,o6,Bool.false_eq_true,go_sem_proc]
       by_cases k1:a.k=0
       ·have k1':(a.k == 0)=true:=by simp [k1]
        simp only [go_sem,k1',k1,go_sem_proc]
        exact Le.refl _
       ·have k1':(a.k == 0)=false:=by simp [k1]
        by_cases k2:b.k=0
        ·have k2':(b.k == 0)=true:=by simp [k2]
         simp only [go_sem,k1',k1,k2',k2,go_sem_proc]
         exact Le.refl _
        ·have k2':(b.k == 0)=false:=by simp [k2]
         by_cases k3:a.k=b.k
         ·have k3':(a.k != b.k)=false:=by simp [k3]
          simp only [go_sem,k1',k1,k2',k2,k3',go_sem_proc]
          refine Cl.pure TT 4000 (kq _) rfl rfl ?_
          simp only [go_sem,k3,go_sem_proc]
          exact Le.refl _
         ·have k3':(a.k != b.k)=true:=by simp [k3]
          simp only [go_sem,k1',k1,k2',k2,k3',k3,go_sem_proc]
          exact Le.refl _
     ·simp only [go_sem,o1,o2,o3,o4,o5,Bool.false_eq_true,go_sem_proc]
      by_cases k1:a.k=0
      ·have k1':(a.k == 0)=true:=by simp [k1]
       simp only [go_sem,k1',k1,go_sem_proc]
       exact Le.refl _
      ·have k1':(a.k == 0)=false:=by simp [k1]
       by_cases k2:b.k=0
       ·have k2':(b.k == 0)=true:=by simp [k2]
        simp only [go_sem,k1',k1,k2',k2,go_sem_proc]
        exact Le.refl _
       ·have k2':(b.k == 0)=false:=by simp [k2]
        by_cases k3:a.k=b.k
        ·have k3':(a.k != b.k)=false:=by simp [k3]
         simp only [go_sem,k1',k1,k2',k2,k3',go_sem_proc]
         refine Cl.pure TT 4000 (kq _) rfl rfl ?_
         simp only [go_sem,k3,go_sem_proc]
         exact Le.refl _
        ·have k3':(a.k != b.k)=true:=by simp [k3]
         simp only [go_sem,k1',k1,k2',k2,k3',k3,go_sem_proc]
         exact Le.refl _
    ·simp only [go_sem,o1,o2,o3,o4,Bool.false_eq_true,go_sem_proc]
     by_cases k1:a.k=0
     ·have k1':(a.k == 0)=true:=by simp [k1]
      simp only [go_sem,k1',k1,go_sem_proc]
      exact Le.refl _
     ·have k1':(a.k == 0)=false:=by simp [k1]
      by_cases k2:b.k=0
      ·have k2':(b.k == 0)=true:=by simp [k2]
       simp only [go_sem,k1',k1,k2',k2,go_sem_proc]
       exact Le.refl _
      ·have k2':(b.k == 0)=false:=by simp [k2]
       by_cases k3:a.k=b.k
       ·have k3':(a.k != b.k)=false:=by simp [k3]
        simp only [go_sem,k1',k1,k2',k2,k3',go_sem_proc]
        refine Cl.pure TT 4000 (kq _) rfl rfl ?_
        simp only [go_sem,k3,go_sem_proc]
        exact Le.refl _
       ·have k3':(a.k != b.k)=true:=by simp [k3]
        simp only [go_sem,k1',k1,k2',k2,k3',k3,go_sem_proc]
        exact Le.refl _
   ·simp only [go_sem,o1,o2,o3,Bool.false_eq_true,go_sem_proc]
    by_cases k1:a.k=0
    ·have k1':(a.k == 0)=true:=by simp [k1]
     simp only [go_sem,k1',k1,go_sem_proc]
     exact Le.refl _
    ·have k1':(a.k == 0)=false:=by simp [k1]
     by_cases k2:b.k=0
     ·have k2':(b.k == 0)=true:=by simp [k2]
      simp only [go_sem,k1',k1,k2',k2,go_sem_proc]
      exact Le.refl _
     ·have k2':(b.k == 0)=false:=by simp [k2]
      by_cases k3:a.k=b.k
      ·have k3':(a.k != b.k)=false:=by simp [k3]
       simp only [go_sem,k1',k1,k2',k2,k3',go_sem_proc]
       refine Cl.pure TT 4000 (kq _) rfl rfl ?_
       simp only [go_sem,k3,go_sem_proc]
       exact Le.refl _
      ·have k3':(a.k != b.k)=true:=by simp [k3]
       simp only [go_sem,k1',k1,k2',k2,k3',k3,go_sem_proc]
       exact Le.refl _
  ·simp only [go_sem,o1,o2,Bool.false_eq_true,go_sem_proc]
   by_cases k1:a.k=0
   ·have k1':(a.k == 0)=true:=by simp [k1]
    simp only [go_sem,k1',k1,go_sem_proc]
    exact Le.refl _
   ·have k1':(a.k == 0)=false:=by simp [k1]
    by_cases k2:b.k=0
    ·have k2':(b.k == 0)=true:=by simp [k2]
     simp only [go_sem,k1',k1,k2',k2,go_sem_proc]
     exact Le.refl _
    ·have k2':(b.k == 0)=false:=by simp [k2]
     by_cases k3:a.k=b.k
     ·have k3':(a.k != b.k)=false:=by simp [k3]
      simp only [go_sem,k1',k1,k2',k2,k3',go_sem_proc]
      refine Cl.pure TT 4000 (kq _) rfl rfl ?_
      simp only [go_sem,k3,go_sem_proc]
      exact Le.refl _
     ·have k3':(a.k != b.k)=true:=by simp [k3]
      simp only [go_sem,k1',k1,k2',k2,k3',k3,go_sem_proc]
      exact Le.refl _
 ·simp only [go_sem,o1,Bool.false_eq_true,go_sem_proc]
  by_cases k1:a.k=0
  ·have k1':(a.k == 0)=true:=by simp [k1]
   simp only [go_sem,k1',k1,go_sem_proc]
   exact Le.refl _
  ·have k1':(a.k == 0)=false:=by simp [k1]
   by_cases k2:b.k=0
   ·have k2':(b.k == 0)=true:=by simp [k2]
    simp only [go_sem,k1',k1,k2',k2,go_sem_proc]
    exact Le.refl _
   ·have k2':(b.k == 0)=false:=by simp [k2]
    by_cases k3:a.k=b.k
    ·have k3':(a.k != b.k)=false:=by simp [k3]
     simp only [go_sem,k1',k1,k2',k2,k3',go_sem_proc]
     refine Cl.pure TT 4000 (kq _) rfl rfl ?_
     simp only [go_sem,k3,go_sem_proc]
     exact Le.refl _
    ·have k3':(a.k != b.k)=true:=by simp [k3]
     simp only [go_sem,k1',k1,k2',k2,k3',k3,go_sem_proc]
     exact Le.refl _
end Go.Ev
end
section
open Go Go.Proofs
namespace Go.Ev
abbrev Zd:ByteArray:=⟨#[61]⟩
def inL (v:Val):List Val → Int × List Val
 | []=>(0,[])
 | w :: l=>if (qX Zd v w).2=0 then ((inL v l).1,(qX Zd v w).1 :: (inL v l).2) else ((qX Zd v w).2,[])
def inS (v:Val) (l:List Val):Val × Int:=if (v.ok && l.all Val.ok)=false then (zeroV,1) else if (inL v l).1=0 then lgS 1 (inL v l).2 else (zeroV,(inL v l).1)
theorem zfP (v:Val):∀ l,(inL v l).1=0 → (inL v l).2.length=l.length ∧ ∀ (j:Nat) (x:Val),l[j]?=some x → (qX Zd v x).2=0 ∧ (inL v l).2[j]?=some (qX Zd v x).1
 | [],_=>⟨rfl,fun j x h=>by simp at h⟩
 | w :: l,h=>by
  rw [inL] at h ⊢
  split at h
  ·rename_i h0
   obtain ⟨h1,h2⟩:=zfP v l h
   rw [if_pos h0]
   refine ⟨by simp [h1],fun j x hx=>?_⟩
   cases j with
   | zero=>simp at hx;subst hx;exact ⟨h0,rfl⟩
   | succ j=>exact h2 j x (by simpa using hx)
  ·rename_i h0;exact absurd h h0
theorem Y4 (v:Val):∀ (l:List Val) (j:Nat) (x:Val),l[j]?=some x → (∀ i y,i < j → l[i]?=some y → (qX Zd v y).2=0) → (qX Zd v x).2 ≠ 0 → (inL v l).1=(qX Zd v x).2
 | [],j,x,h,_,_=>by simp at h
 | w :: l,0,x,h,_,hne=>by simp at h;subst h;rw [inL,if_neg hne]
 | w :: l,j + 1,x,h,hall,hne=>by
  rw [inL,if_pos (hall 0 w (by omega) rfl)]
  exact Y4 v l j x (by simpa using h) (fun i y hi hy=>hall (i + 1) y (by omega) (by simpa using hy)) hne
theorem zgj (v:Val):∀ (l:List Val),(∀ (i:Nat) y,l[i]?=some y → (qX Zd v y).2=0) → inL v l=(0,l.map fun x=>(qX Zd v x).1)
 | [],_=>rfl
 | w :: l,h=>by
  rw [inL,if_pos (h 0 w rfl),zgj v l fun i y hy=>h (i + 1) y (by simpa using hy)];rfl
theorem zb1 (op:ByteArray) (a b:Val):I64 (qX op a b).1.i:=by
 unfold qX
 split
 ·simp [zeroV,I64]
 ·split
  ·simp [zeroV,I64]
  ·split
   ·simp [zeroV,I64]
   ·split
    ·unfold zZ I64;split <;> simp
    ·simp [zeroV,I64]
def zfY (v x:Val):List CV:=(qX Zd v x).1.cs
def zcs (_:Val):List CV:=[.int .i64 0,.int .i64 0,.str ⟨#[]⟩]
theorem zjp (v:Val) (l:List Val) (hv:I64 v.i) (hi:∀ x,x ∈ l → I64 x.i) (hb:l.length ≤ 1000000):Good Tryz.prog 145 [v.av,.c (qk l)] [] (qY (inS v l).1 (inS v l).2) []:=by
 refine Good.zg TT 4000 Tryz.func145 rfl rfl ?_
 unfold Tryz.f145
 have hal:((l.map Val.cs).all fun y=>y.length == 3)=true:=List.all_eq_true.2 fun y hy=>by
  obtain ⟨x,_,rfl⟩:=List.mem_map.1 hy
  rfl
 have hk:List.take l.length (l.map Val.cs)=l.map Val.cs:=List.take_of_length_le (by simp)
 simp only [go_sem,hal,go_sem_proc]
 refine ⟨by omega,?_⟩
 refine Cl.pure TT 4000 (yu (v :: l) (fun x hx=>by
  rcases List.mem_cons.1 hx with rfl | hx
  ·exact hv
  ·exact hi x hx)) (by simp only [go_sem,Nat.add_comm 1 l.length,Nat.zero_add,Nat.le_refl,hk,go_sem_proc]) rfl ?_
 have hq:(v :: l).all Val.ok=(v.ok && l.all Val.ok):=rfl
 rw [hq]
 unfold inS
 cases hok:(v.ok && l.all Val.ok)
 ·simp only [go_sem,okE,Bool.false_eq_true,go_sem_proc]
  exact Le.refl _
 simp only [go_sem,okE,go_sem_proc]
 refine ⟨⟨by omega,by omega⟩,?_⟩
 refine Lp.at TT 4000 5 (Nat.le_of_ble_eq_true rfl) [false,false,false,false,false,true,false,false,true,true,true,true,false,false,false,false,false,false,false,false,false,false,false,false,false,false,true,true,true,true,true,true,true,true,true,true,true,true,true,true,true,true,true,true,true,true] (fun j:Nat=>l.length - j) (fun j=>j ≤ l.length ∧ ∀ (i:Nat) y,i < j → l[i]?=some y → (qX Zd v y).2=0) (fun j=>[(26,cI j)]) (fun j=>[(4,.rows 3 26 (zho zcs (zfY v) l j))]) (0) (⟨Nat.zero_le _,fun i y h=>absurd h (Nat.not_lt_zero _)⟩) ?_ ?_
 ·have hz:List.map zcs l=List.replicate l.length [.int .i64 0,.int .i64 0,.str ⟨#[]⟩]:=List.eq_replicate_iff.2 ⟨by simp,fun b hb=>by
   obtain ⟨_,_,rfl⟩:=List.mem_map.1 hb
   rfl⟩
  simp only [go_sem,zf9,hz,go_sem_proc]
 ·rintro j ⟨i1,i2⟩
  rcases Nat.lt_or_ge j l.length with hlt | hge
  ·obtain ⟨x,hx,hm,ht,hd⟩:=vj hlt
   have hw:=zh (j:=j) (by omega)
   have hg:=zhL (f:=zcs) (g:=zfY v) hx
   have hst:=zjs (f:=zcs) (g:=zfY v) hx
   rw [zcs] at hg
   rw [zfY,Val.cs] at hst
   simp only [go_sem,hlt,hx,hg,Nat.zero_add,go_sem_proc]
   (refine Cl.pure TT 4000 (Zu Zd v x hv (hi x hm)) rfl rfl ?_;simp only [go_sem,go_sem_proc])
   by_cases c:(qX Zd v x).2=0
   ·have c':((qX Zd v x).2 != 0)=false:=by simp [c]
    simp only [go_sem,c',hst,hg,hlt,Nat.zero_add,go_sem_proc]
    exact ⟨j + 1,by omega,⟨by omega,fun i y hi hy=>by
     rcases Nat.lt_or_ge i j with h | h
     ·exact i2 i y h hy
     ·have:i=j:=by omega
      subst this
      rw [hx] at hy;cases hy;exact c⟩,zq.of_eq (congrArg cI hw),rfl⟩
   ·have c':((qX Zd v x).2 != 0)=true:=by simp [c]
    have he:=Y4 v l j x hx i2 c
    simp only [go_sem,c',he,c,go_sem_proc]
    exact Le.refl _
  ·have:j=l.length:=by omega
   subst this
   have h0:=zgj v l (fun i y hy=>i2 i y (List.getElem?_eq_some_iff.1 hy).1 hy)
   have e1:(inL v l).1=0:=by rw [h0]
   have e2:(inL v l).2=l.map fun x=>(qX Zd v x).1:=by rw [h0]
   have e3:List.map (zfY v) l=(inL v l).2.map Val.cs:=by rw [e2,List.map_map];rfl
   have e4:(inL v l).2.length=l.length:=by rw [e2];simp
   have e5:List.take l.length ((inL v l).2.map Val.cs)=(inL v l).2.map Val.cs:=List.take_of_length_le (by simp [e4])
   simp only [go_sem,Nat.lt_irrefl,ziG (f:=zcs) (g:=zfY v) (l:=l),e3,go_sem_proc]
   refine Cl.pure TT 4000 (zbH (inL v l).2 (fun x hx=>by
    rw [e2] at hx
    obtain ⟨y,_,rfl⟩:=List.mem_map.1 hx
    exact zb1 _ _ _)) (by simp only [go_sem,Nat.zero_add,e4,e5,Nat.le_refl,go_sem_proc]) rfl ?_
   simp only [go_sem,e1,go_sem_proc]
   exact Le.refl _
end Go.Ev
end
