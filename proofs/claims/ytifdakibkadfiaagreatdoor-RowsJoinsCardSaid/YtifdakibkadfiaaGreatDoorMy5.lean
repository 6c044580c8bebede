import Derived.Test.YtifdakibkadfiaaGreatDoorMy4
import Derived.Test.YtifdakibkadfiaaGreatDoorMr1
import Derived.Test.YtifdakibkadfiaaGreatDoorMy2
set_option linter.all false
set_option maxRecDepth 100000
set_option maxHeartbeats 8000000
section
open Go Go.Proofs Go.RowKit
namespace Go.Ev
theorem zhM (k:ByteArray):jx k [kM,jU,kJ,jz,kL]=zej k:=by
 unfold jx zej jL jR jC
 simp only [List.any_cons,List.any_nil,Bool.or_false]
 cases k.toList == jU.toList <;> cases k.toList == jz.toList <;> cases k.toList == kJ.toList <;> cases k.toList == kM.toList <;> cases k.toList == kL.toList <;> rfl
theorem zlS (T:List Val → List Val → Bool) (b:List (List Val)) (x:List Val):((b.take 0).filter (T x)).isEmpty=true:=rfl
theorem W7 {T:List Val → List Val → Bool} {b:List (List Val)} {x y:List Val} {i:Nat} (ht:b.take (i + 1)=b.take i ++ [y]) (h:T x y=true):((b.take (i + 1)).filter (T x)).isEmpty=false:=by
 rw [ht,List.filter_append];simp [h]
theorem zen {T:List Val → List Val → Bool} {b:List (List Val)} {x y:List Val} {i:Nat} (ht:b.take (i + 1)=b.take i ++ [y]) (h:T x y=false):((b.take (i + 1)).filter (T x)).isEmpty=((b.take i).filter (T x)).isEmpty:=by
 rw [ht,List.filter_append];simp [h]
theorem ziE (k:ByteArray) (a b:List (List Val)) (wa wb:Int) (on:Expr) (tF:List Val → Bool × Int) (ha:a.length ≤ 1000) (hb:b.length ≤ 1000)
  (hla:∀ x,x ∈ a → x.length ≤ 1000) (hlb:∀ x,x ∈ b → x.length ≤ 1000) (hwa:wa ≤ 1000) (hwb:wb ≤ 1000)
  (ht:∀ x,x ∈ a → ∀ y,y ∈ b → Good Tryz.prog 23 [on.av,.c (qk (x ++ y))] [] (.tup [cB (tF (x ++ y)).1,cI (tF (x ++ y)).2]) []) :
  Good Tryz.prog 14 [cS k,.c (qD a),.c (qD b),cI wa,cI wb,on.av] [] (.tup [.c (qD (xr k tF wa wb a b).1),cI (xr k tF wa wb a b).2]) []:=by
 obtain ⟨T,hT⟩:∃ T,T=jT k tF:=⟨_,rfl⟩
 obtain ⟨E,hE⟩:∃ E,E=jE k tF:=⟨_,rfl⟩
 obtain ⟨F,hF⟩:∃ F,F=Wm (fun x=>Wm (E x) b) a:=⟨_,rfl⟩
 obtain ⟨R,hR⟩:∃ R,R=(AV.tup [.c (qD (xr k tF wa wb a b).1),cI (xr k tF wa wb a b).2]):=⟨_,rfl⟩
 have hal1:∀ x:List (List Val),(x.map qH).all (fun y=>y.length == 1)=true:=fun x=>List.all_eq_true.2 fun y hy=>by
  obtain ⟨z,_,rfl⟩:=List.mem_map.1 hy
  rfl
 rw [← hR]
 have hfit:b.length * 1 ≤ 140737488355328:=by omega
 have hin:=KO k [kM,jU,kJ,jz,kL] (by simp)
 rw [zhM] at hin
 refine Good.zg TT 4000 Tryz.func14 rfl rfl ?_
 unfold Tryz.f14
 rcases zjF k with ⟨h1,h2,h3,h4,h5,f2,f3⟩ | ⟨h1,h2,h3,h4,h5,f2,f3⟩ | ⟨h1,h2,h3,h4,h5,f2,f3⟩ | ⟨h1,h2,h3,h4,h5,f2,f3⟩ | ⟨h1,h2,h3,h4,h5,f2,f3⟩ | ⟨h1,h2,h3,h4,h5,f2,f3⟩
 case inr.inr.inr.inr.inr =>
  have e1:zej k=false:=by unfold zej jL jR jC;rw [h1,h2,h3,h4,h5];rfl
  simp only [go_sem,go_sem_proc]
  refine Cl.pure TT 4000 hin rfl rfl ?_
  simp only [go_sem,e1,go_sem_proc]
  rw [hR,xr,e1]
  exact Le.of_eq rfl
 all_goals
  have e1:zej k=true:=by unfold zej jL jR jC;rw [h1,h2,h3,h4,h5];rfl
  obtain ⟨L,hL⟩:∃ L,L=jL k:=⟨_,rfl⟩
  obtain ⟨S,hS⟩:∃ S,S=jR k:=⟨_,rfl⟩
  have e2:=hL.symm
  have e3:=hS.symm
  rw [f2] at hL
  rw [f3] at hS
  have htT:jC k=false → ∀ x,x ∈ a → ∀ y,y ∈ b → Good Tryz.prog 23 [on.av,.c (qk (x ++ y))] [] (.tup [cB (T x y),cI (E x y)]) []:=fun hc x hx y hy=>by
   have:=ht x hx y hy
   rw [hT,hE];unfold jT jE;rw [hc];exact this
  have hR1:F ≠ 0 → R = .tup [.c (qD []),cI F]:=fun h=>by rw [hR,xr,if_pos e1];simp only [zcD,← hE,← hF];rw [zeQ h]
  have hR0:F=0 → R = .tup [.c (qD (Yy T L S (wC wa) (wC wb) a b)),cI 0]:=fun h=>by rw [hR,xr,if_pos e1];simp only [zcD,← hE,← hF,← hT,e2,e3,h];rw [zjN]
  obtain ⟨nb,hnb⟩:∃ nb,nb=wC wb:=⟨_,rfl⟩
  obtain ⟨na,hna⟩:∃ na,na=wC wa:=⟨_,rfl⟩
  rw [← hnb,← hna] at hR0
  have hnbl:nb.length ≤ 1000:=by rw [hnb,yX];omega
  have hnal:na.length ≤ 1000:=by rw [hna,yX];omega
  simp only [go_sem,go_sem_proc]
  refine Cl.pure TT 4000 hin rfl rfl ?_
  simp only [go_sem,e1,qD,List.length_map,Nat.zero_add,hfit,go_sem_proc]
  refine ⟨⟨by omega,by omega⟩,?_⟩
  refine Lp.atP TT 4000 1 (Nat.le_of_ble_eq_true rfl) [false,false,false,false,false,false,false,false,false,false,false,false,true,true,true,false,false,true,true,true,true,true,true,true,true,false,false,false,false,false,false,false,false,false,false,false,true,true,true,true,true,true,true,true,true,true,true,true,true,true,true,true,true,true,true,true,true,true,true,true,true,true,true,true,true,true,true,true,true,true,true,true,true,true,true,true,true,true,true,true,true,true,true,true,true,true,true,true,true,true,true] (fun j:Nat=>a.length - j) (fun j=>j ≤ a.length ∧ ∀ x,x ∈ a.take j → Wm (E x) b=0) (fun j=>[(12,.dead),(14,.sl 1 0 ((a.take j).flatMap (KJ T L nb b)).length),(15,.sl 2 0 b.length),(28,.dead),(33,.dead),(36,cI j)]) (fun j=>[.rows 1 47 (((a.take j).flatMap (KJ T L nb b)).map qH),.rows 1 4 (ZI T b (a.take j))]) [3,4] (0) (⟨Nat.zero_le _,fun r hr=>by simp at hr⟩) ?_ ?_
  ·simp only [go_sem,go_sem_proc]
   rw [show ZI T b []=List.replicate b.length [.bool false] by simp [ZI,List.map_const']]
   exact ⟨rfl,rfl⟩
  ·rintro j ⟨i1,i2⟩
   rcases Nat.lt_or_ge j a.length with hlt | hge
   ·obtain ⟨x,hx,hmx,hta,hda⟩:=vj hlt
    have hw:=zh (j:=j) (by omega)
    simp only [go_sem,hlt,hx,go_sem_proc]
    refine Lp.atP TT 4000 1 (Nat.le_of_ble_eq_true rfl) [false,false,false,false,false,false,false,false,false,false,false,false,true,true,true,false,false,false,true,true,true,true,true,true,true,false,false,false,false,false,false,false,false,false,false,false,false,false,false,false,false,false,true,true,true,true,true,true,true,true,true,true,true,true,true,true,true,true,true,true,true,true,true,true,true,true,true,true,true,true,true,true,true] (fun i:Nat=>b.length - i) (fun i=>i ≤ b.length ∧ ∀ y,y ∈ b.take i → E x y=0) (fun i=>[(14,.sl 1 0 (jJ T L nb b (a.take j) x i).length),(15,.sl 2 0 b.length),(18,cB ((b.take i).filter (T x)).isEmpty),(42,cI i)]) (fun i=>[.rows 1 47 ((jJ T L nb b (a.take j) x i).map qH),.rows 1 4 (x6 T (a.take j) x b i)]) [1,2] (0) (⟨Nat.zero_le _,fun r hr=>by simp at hr⟩) ?_ ?_
    ·simp only [go_sem,go_sem_proc]
     exact ⟨rfl,⟨zq.of_eq (by rw [y4]),zq.of_eq rfl⟩,by rw [y4,V8];rfl⟩
    ·rintro i ⟨k1,k2⟩
     rcases Nat.lt_or_ge i b.length with hlt2 | hge2
     ·obtain ⟨y,hy,hmy,htb,hdb⟩:=vj hlt2
      have hw2:=zh (j:=i) (by omega)
      have hxl:=hla x hmx
      have hyl:=hlb y hmy
      simp only [go_sem,hlt2,hy,go_sem_proc]
      refine Cl.pure TT 4000 (Q8 x y (by omega)) rfl rfl ?_
      first
       |
        have hcc:jC k=false:=h5
        simp only [go_sem,h1,h2,h3,h4,h5,go_sem_proc]
        refine Cl.pure TT 4000 (htT h5 x hmx y hmy) rfl rfl ?_
        by_cases he:E x y=0
        ·have he':(E x y != 0)=false:=by simp [he]
         have hnx:∀ z,z ∈ b.take (i + 1) → E x z=0:=fun z hz=>by
          rw [htb] at hz
          rcases List.mem_append.1 hz with hz | hz
          ·exact k2 z hz
          ·rw [List.mem_singleton.1 hz];exact he
         cases hTx:T x y with
         | true =>
          have hwt:=wh (T:=T) (a:=a.take j) (x:=x) hy
          rw [hTx,Bool.or_true] at hwt
          have hwg:=xu (T:=T) (a:=a.take j) (x:=x) hy
          have hXn:=Zx (l:=L) (nb:=nb) (a:=a.take j) (x:=x) htb hTx
          have hxl:=xV T L nb b (a.take j) x i (by rw [List.length_take];omega) hb
          have hsz:((jJ T L nb b (a.take j) x i).length + 1) * 24 ≤ 140737488355328:=by omega
          have hnext:List.map qH (jJ T L nb b (a.take j) x i) ++ [[.lst 3 false ((x ++ y).map Val.cs)]]=List.map qH (jJ T L nb b (a.take j) x (i + 1)):=by rw [hXn,List.map_append (f:=qH)];rfl
          have hXl:(jJ T L nb b (a.take j) x (i + 1)).length=(jJ T L nb b (a.take j) x i).length + 1:=by rw [hXn];simp
          simp only [go_sem,he',hTx,hw2,hal1,List.length_map,Nat.zero_add,hsz,hnext,hwg,← hwt,hlt2,Zy,go_sem_proc]
          exact ⟨i + 1,[4,2],by omega,⟨by omega,hnx⟩,rfl,⟨zq.of_eq (by rw [hXl];rfl),zq.of_eq rfl,zq.of_eq (by rw [W7 htb hTx]),zq.of_eq rfl⟩,rfl⟩
         | false =>
          have hXn:=XR (l:=L) (nb:=nb) (a:=a.take j) (x:=x) htb hTx
          have hwt:=VM (T:=T) (a:=a.take j) (x:=x) hy hTx
          simp only [go_sem,he',hTx,hw2,go_sem_proc]
          exact ⟨i + 1,[1,2],by omega,⟨by omega,hnx⟩,rfl,⟨zq.of_eq (by rw [hXn];rfl),zq.of_eq rfl,zq.of_eq (by rw [zen htb hTx]),zq.of_eq rfl⟩,by rw [hXn,hwt];rfl⟩
        ·have he':(E x y != 0)=true:=bne_iff_ne.2 he
         simp only [go_sem,he',go_sem_proc]
         have hFx:Wm (E x) b=E x y:=Kv hy k2 he
         have hFF:F=E x y:=by rw [hF,Kv hx i2 (by rw [hFx];exact he),hFx]
         rw [hR1 (by rw [hFF];exact he),hFF]
         exact Le.refl _
       |
        skip
        have hTx:T x y=true:=by rw [hT];unfold jT jC;rw [h5];rfl
        have he:E x y=0:=by rw [hE];unfold jE jC;rw [h5];rfl
        have hnx:∀ z,z ∈ b.take (i + 1) → E x z=0:=fun z hz=>by
         rw [htb] at hz
         rcases List.mem_append.1 hz with hz | hz
         ·exact k2 z hz
         ·rw [List.mem_singleton.1 hz];exact he
        have hwt:=wh (T:=T) (a:=a.take j) (x:=x) hy
        rw [hTx,Bool.or_true] at hwt
        have hwg:=xu (T:=T) (a:=a.take j) (x:=x) hy
        have hXn:=Zx (l:=L) (nb:=nb) (a:=a.take j) (x:=x) htb hTx
        have hxl:=xV T L nb b (a.take j) x i (by rw [List.length_take];omega) hb
        have hsz:((jJ T L nb b (a.take j) x i).length + 1) * 24 ≤ 140737488355328:=by omega
        have hnext:List.map qH (jJ T L nb b (a.take j) x i) ++ [[.lst 3 false ((x ++ y).map Val.cs)]]=List.map qH (jJ T L nb b (a.take j) x (i + 1)):=by rw [hXn,List.map_append (f:=qH)];rfl
        have hXl:(jJ T L nb b (a.take j) x (i + 1)).length=(jJ T L nb b (a.take j) x i).length + 1:=by rw [hXn];simp
        simp only [go_sem,h1,h2,h3,h4,h5,hw2,hal1,List.length_map,Nat.zero_add,hsz,hnext,hwg,← hwt,hlt2,Zy,go_sem_proc]
        exact ⟨i + 1,[4,2],by omega,⟨by omega,hnx⟩,rfl,⟨zq.of_eq (by rw [hXl];rfl),zq.of_eq rfl,zq.of_eq (by rw [W7 htb hTx]),zq.of_eq rfl⟩,rfl⟩
     ·have hi:i=b.length:=by omega
      subst hi
      rw [List.take_length] at k2
      have hnx:∀ z,z ∈ a.take (j + 1) → Wm (E z) b=0:=fun z hz=>by
       rw [hta] at hz
       rcases List.mem_append.1 hz with hz | hz
       ·exact i2 z hz
       ·rw [List.mem_singleton.1 hz];exact Vt.2 k2
      simp only [go_sem,Nat.lt_irrefl,List.take_length,go_sem_proc]
      first
       |
        have hLt:L=true:=hL
        cases hem:(b.filter (T x)).isEmpty with
        | true =>
         have hfm:=Jm (nb:=nb) hem hta
         have hwn:=wm T (a.take j) x b hta
         subst hL
         have hol:=xV T true nb b (a.take j) x b.length (by rw [List.length_take];omega) hb
         have hsz:((jJ T true nb b (a.take j) x b.length).length + 1) * 24 ≤ 140737488355328:=by omega
         have hnext:List.map qH (jJ T true nb b (a.take j) x b.length) ++ [[.lst 3 false ((x ++ nb).map Val.cs)]]=List.map qH ((a.take (j + 1)).flatMap (KJ T true nb b)):=by rw [hfm,List.map_append (f:=qH)];rfl
         have m0:(0:Int) ≤ max wb 0:=by omega
         have m1:(max wb 0).toNat ≤ 1000000:=by omega
         have m2:32 * (max wb 0).toNat ≤ 281474976710656:=by omega
         have m3:max wb 0 ≤ 9223372036854775807:=by omega
         have hk3:List.take (max wb 0).toNat (List.replicate (max wb 0).toNat zc3)=nb.map Val.cs:=by
          rw [List.take_of_length_le (by simp),hnb]
          unfold wC;rw [List.map_replicate];rfl
         generalize hm:max wb 0=m at m0 m1 m2 m3 hk3
         simp only [go_sem,hem,h1,h2,hm,m0,m2,m3,go_sem_proc]
         refine Cl.pure TT 4000 (Q8 x nb (by have:=hla x hmx;omega)) (by simp only [go_sem,List.length_replicate,Nat.zero_add,Nat.le_refl,hk3,qk,go_sem_proc];first | done | rfl) rfl ?_
         simp only [go_sem,hw,hal1,List.length_map,Nat.zero_add,hsz,hnext,go_sem_proc]
         exact ⟨j + 1,[5,2],by omega,⟨by omega,hnx⟩,rfl,⟨zq.of_eq (by rw [hfm,List.length_append];rfl),zq.of_eq rfl,zq.of_eq rfl⟩,by rw [hwn];rfl⟩
        | false =>
         have hfm:=Zh (nb:=nb) (l:=L) (by rw [hem,Bool.and_false]) hta
         have hwn:=wm T (a.take j) x b hta
         simp only [go_sem,hem,hw,go_sem_proc]
         exact ⟨j + 1,[1,2],by omega,⟨by omega,hnx⟩,rfl,⟨zq.of_eq (by rw [hfm];rfl),zq.of_eq rfl,zq.of_eq rfl⟩,by rw [hfm,hwn];rfl⟩
       |
        skip
        have hfm:=Zh (T:=T) (b:=b) (nb:=nb) (l:=L) (by rw [hL,Bool.false_and]) hta
        have hwn:=wm T (a.take j) x b hta
        cases hem:(b.filter (T x)).isEmpty with
        | true =>
         simp only [go_sem,hem,h1,h2,hw,go_sem_proc]
         exact ⟨j + 1,[1,2],by omega,⟨by omega,hnx⟩,rfl,⟨zq.of_eq (by rw [hfm];rfl),zq.of_eq rfl,zq.of_eq rfl⟩,by rw [hfm,hwn];rfl⟩
        | false =>
         simp only [go_sem,hem,hw,go_sem_proc]
         exact ⟨j + 1,[1,2],by omega,⟨by omega,hnx⟩,rfl,⟨zq.of_eq (by rw [hfm];rfl),zq.of_eq rfl,zq.of_eq rfl⟩,by rw [hfm,hwn];rfl⟩
   ·have hj:j=a.length:=by omega
    subst hj
    rw [List.take_length] at i2
    have hF0:F=0:=by rw [hF];exact Vt.2 i2
    simp only [go_sem,Nat.lt_irrefl,List.take_length,go_sem_proc]
    obtain ⟨Z,hZ⟩:∃ Z:Nat → List (List Val),∀ i,Z i=a.flatMap (KJ T L nb b) ++ zb2 T S na a b i:=⟨_,fun _=>rfl⟩
    have hZ0:a.flatMap (KJ T L nb b)=Z 0:=by rw [hZ,WS,List.append_nil]
    have hRZ:R = .tup [.c (qD (Z b.length)),cI 0]:=by rw [hR0 hF0,VZ,← hZ]
    rw [hZ0]
    refine Lp.atP TT 4000 1 (Nat.le_of_ble_eq_true rfl) [false,false,false,false,false,false,false,false,false,false,false,false,false,false,true,false,false,false,false,false,false,false,false,false,false,true,true,false,false,false,false,false,false,false,false,false,false,false,false,false,false,false,false,false,false,false,false,false,false,false,false,false,false,false,false,false,false,false,false,false,false,false,false,false,false,false,false,false,false,false,false,false,false,false,false,false,false,false,false,false,false,false,false,false,false,false,false,false,false,false,false,false,false,true,true,true,true,true,true,true,true,true,true,true,true,true,true,true,true,true,true,true,true,true,true,true,true,true,true,true] (fun i:Nat=>b.length - i) (fun i=>i ≤ b.length) (fun i=>[(14,.sl 1 0 (Z i).length),(15,.sl 2 0 b.length),(93,cI i)]) (fun i=>[.rows 1 47 ((Z i).map qH),.rows 1 4 (ZI T b a)]) [1,2] (0) (Nat.zero_le _) ?_ ?_
    ·simp only [go_sem,go_sem_proc]
     first | done | rfl
    ·rintro i k1
     rcases Nat.lt_or_ge i b.length with hlt2 | hge2
     ·obtain ⟨y,hy,hmy,htb,hdb⟩:=vj hlt2
      have hw2:=zh (j:=i) (by omega)
      first
       |
        have hSt:S=true:=hS
        have hwg:=Vo (T:=T) (a:=a) hy
        have hyl:=hlb y hmy
        cases han:a.any (T · y) with
        | true =>
         rw [han] at hwg
         have hZn:Z (i + 1)=Z i:=by rw [hZ,hZ,hS,WW htb han]
         simp only [go_sem,Nat.zero_add,hlt2,hy,hw2,hwg,j4,go_sem_proc]
         exact ⟨i + 1,[1,2],by omega,by omega,rfl,⟨zq.of_eq (by rw [hZn];rfl),zq.of_eq rfl,zq.of_eq rfl⟩,by rw [hZn];rfl⟩
        | false =>
         rw [han] at hwg
         have hZn:Z (i + 1)=Z i ++ [na ++ y]:=by rw [hZ,hZ,hS,WH htb han,List.append_assoc]
         have hZl:(Z i).length ≤ 1003000:=by
          rw [hZ,List.length_append]
          have z1:=xo T L nb b a
          have z2:=zbw T S na a b i
          have z3:a.length * (b.length + 1) ≤ 1000 * 1001:=Nat.mul_le_mul ha (by omega)
          omega
         have hsz:((Z i).length + 1) * 24 ≤ 140737488355328:=by omega
         have hnext:List.map qH (Z i) ++ [[.lst 3 false ((na ++ y).map Val.cs)]]=List.map qH (Z (i + 1)):=by rw [hZn,List.map_append (f:=qH)];rfl
         have m0:(0:Int) ≤ max wa 0:=by omega
         have m1:(max wa 0).toNat ≤ 1000000:=by omega
         have m2:32 * (max wa 0).toNat ≤ 281474976710656:=by omega
         have m3:max wa 0 ≤ 9223372036854775807:=by omega
         have hk3:List.take (max wa 0).toNat (List.replicate (max wa 0).toNat zc3)=na.map Val.cs:=by
          rw [List.take_of_length_le (by simp),hna]
          unfold wC;rw [List.map_replicate];rfl
         generalize hm:max wa 0=m at m0 m1 m2 m3 hk3
         simp only [go_sem,Nat.zero_add,hlt2,hy,hwg,j4,h2,h3,hm,m0,m2,m3,go_sem_proc]
         refine Cl.pure TT 4000 (Q8 na y (by omega)) (by simp only [go_sem,List.length_replicate,Nat.zero_add,Nat.le_refl,hk3,qk,go_sem_proc];first | done | rfl) rfl ?_
         simp only [go_sem,hw2,hal1,List.length_map,Nat.zero_add,hsz,hnext,go_sem_proc]
         exact ⟨i + 1,[5,2],by omega,by omega,rfl,⟨zq.of_eq (by rw [hZn,List.length_append];rfl),zq.of_eq rfl,zq.of_eq rfl⟩,rfl⟩
       |
        skip
        have hwg:=Vo (T:=T) (a:=a) hy
        have hZn:Z (i + 1)=Z i:=by rw [hZ,hZ,hS];rfl
        cases han:a.any (T · y) with
        | true =>
         rw [han] at hwg
         simp only [go_sem,Nat.zero_add,hlt2,hy,hw2,hwg,j4,go_sem_proc]
         exact ⟨i + 1,[1,2],by omega,by omega,rfl,⟨zq.of_eq (by rw [hZn];rfl),zq.of_eq rfl,zq.of_eq rfl⟩,by rw [hZn];rfl⟩
        | false =>
         rw [han] at hwg
         simp only [go_sem,Nat.zero_add,hlt2,hy,hw2,hwg,j4,h2,h3,go_sem_proc]
         exact ⟨i + 1,[1,2],by omega,by omega,rfl,⟨zq.of_eq (by rw [hZn];rfl),zq.of_eq rfl,zq.of_eq rfl⟩,by rw [hZn];rfl⟩
     ·have hi:i=b.length:=by omega
      subst hi
      have hk:List.take (Z b.length).length (List.map qH (Z b.length))=List.map qH (Z b.length):=List.take_of_length_le (by simp)
      simp only [go_sem,Nat.lt_irrefl,List.length_map,Nat.zero_add,Nat.le_refl,hk,go_sem_proc]
      rw [hRZ]
      exact Le.of_eq rfl
end Go.Ev
end
section
open Go Go.Proofs Go.RowKit
namespace Go.Ev
theorem znf {p:Expr → Bool} {e:Expr}:[e].all p=p e:=by simp
theorem zhJ (k:ByteArray) (tF:List Val → Bool × Int) (wa wb:Int) (a b:List (List Val)) (ha:a.length ≤ 30) (hb:b.length ≤ 30):(xr k tF wa wb a b).1.length ≤ 100000:=by
 unfold xr
 split
 ·show (okF _ _).length ≤ 100000
  unfold okF;split
  ·have h1:=zhj (jT k tF) (jL k) (jR k) (wC wa) (wC wb) a b
   have h2:a.length * (b.length + 1) ≤ 30 * 31:=Nat.mul_le_mul ha (by omega)
   omega
  ·simp
 ·simp
theorem Vz (k:ByteArray) (ws wt:Int) (ls lt:List (List Val)) (e:Expr) (live:Good Tryz.prog 10 [] [] (cB true) [])
  (hws:I64 ws) (hls:∀ r,r ∈ ls → ∀ v,v ∈ r → I64 v.i) (hss:∀ r,r ∈ ls → ∀ v,v ∈ r → v.s.size ≤ 281474976710656)
  (hwt:I64 wt) (hlt:∀ r,r ∈ lt → ∀ v,v ∈ r → I64 v.i) (hst:∀ r,r ∈ lt → ∀ v,v ∈ r → v.s.size ≤ 281474976710656)
  (he:Expr.All (fun x=>I64 x.v.i) e) :
  Good Tryz.prog 3 [cS k,zlB ws ls,zlB wt lt,e.av] [] (cB true) []:=by
 have heva:=Ye ws hws ls hss
 have hevb:=Ye wt hwt lt hst
 have hwa:=Jr ws
 have hwb:=Jr wt
 generalize VD ws=wa at heva hwa
 generalize VD wt=wb at hevb hwb
 refine Good.zg TT 4000 Tryz.func3 rfl rfl ?_
 unfold Tryz.f3
 simp only [go_sem,zlB,go_sem_proc]
 refine Cl.pure TT 4000 live rfl rfl ?_
 cases hea:Zp ls with
 | false =>
  rw [hea,if_neg (by simp)] at heva
  simp only [go_sem,go_sem_proc]
  refine Cl.pure TT 4000 heva rfl rfl ?_
  cases heb:Zp lt with
  | false =>
   rw [heb,if_neg (by simp)] at hevb
   simp only [go_sem,go_sem_proc]
   refine Cl.pure TT 4000 hevb rfl rfl ?_
   simp only [go_sem,go_sem_proc]
   first | done | exact Le.refl _
  | true =>
   rw [heb,if_pos rfl] at hevb
   generalize lt.map (VX wb)=y at hevb
   simp only [go_sem,go_sem_proc]
   refine Cl.pure TT 4000 hevb rfl rfl ?_
   simp only [go_sem,go_sem_proc]
   first | done | exact Le.refl _
 | true =>
  rw [hea,if_pos rfl] at heva
  have htab:=zlz (w:=wa) hea hls
  generalize ls.map (VX wa)=x at heva htab
  have hx30:=htab.len
  simp only [go_sem,go_sem_proc]
  refine Cl.pure TT 4000 heva rfl rfl ?_
  cases heb:Zp lt with
  | false =>
   rw [heb,if_neg (by simp)] at hevb
   simp only [go_sem,go_sem_proc]
   refine Cl.pure TT 4000 hevb rfl rfl ?_
   simp only [go_sem,go_sem_proc]
   first | done | exact Le.refl _
  | true =>
   rw [heb,if_pos rfl] at hevb
   have htbb:=zlz (w:=wb) heb hlt
   generalize lt.map (VX wb)=y at hevb htbb
   have hy30:=htbb.len
   have hwp:IntKind.wrap .i64 ((wa:Int) + (wb:Int))=((wa + wb:Nat):Int):=by rw [qd (by omega) (by omega)];rfl
   simp only [go_sem,go_sem_proc]
   refine Cl.pure TT 4000 hevb rfl rfl ?_
   simp only [go_sem,hwp,go_sem_proc]
   have hbn:=zcj (wa + wb) (by omega) [e] (by simp)
   rw [znf] at hbn
   simp only [List.map_cons,List.map_nil,Expr.Yc e] at hbn
   refine Cl.pure TT 4000 hbn rfl rfl ?_
   cases hb:zea (wa + wb) e with
   | false =>
    simp only [go_sem,go_sem_proc]
    first | done | exact Le.refl _
   | true =>
    have hrow:∀ p,p ∈ x → ∀ q,q ∈ y → zjI (p ++ q) e:=fun p hp q hq=>by
     refine zlU ⟨?_,fun v hv=>?_⟩ hb he
     ·rw [List.length_append,(htab.rows p hp).1,(htbb.rows q hq).1]
     ·rcases List.mem_append.1 hv with hv | hv
      ·exact (htab.rows p hp).2 v hv
      ·exact (htbb.rows q hq).2 v hv
    have jp:=zeN k x y wa wb e (trF e) (by omega) (by omega) (fun p hp=>by rw [(htab.rows p hp).1];omega) (fun q hq=>by rw [(htbb.rows q hq).1];omega) (by omega) (by omega)
     fun p hp q hq=>zcF _ e (hrow p hp q hq).p
    have jq:=ziE k x y wa wb e (trF e) (by omega) (by omega) (fun p hp=>by rw [(htab.rows p hp).1];omega) (fun q hq=>by rw [(htbb.rows q hq).1];omega) (by omega) (by omega)
     fun p hp q hq=>ze3 _ e (fun h0=>(zm4 ((hrow p hp q hq).ok h0)).1) (hrow p hp q hq).q
    have hjl:=zhJ k (trF e) wa wb x y hx30 hy30
    generalize xr k (trF e) wa wb x y=J at jp jq hjl
    obtain ⟨A,E⟩:=J
    have sA:=zfR A E hjl
    simp only [go_sem,go_sem_proc]
    refine Cl.pure TT 4000 jp rfl rfl ?_
    simp only [go_sem,go_sem_proc]
    refine Cl.pure TT 4000 jq rfl rfl ?_
    simp only [go_sem,go_sem_proc]
    refine Cl.pure TT 4000 sA rfl rfl ?_
    simp only [go_sem,go_sem_proc]
    first | done | exact Le.refl _
end Go.Ev
end
