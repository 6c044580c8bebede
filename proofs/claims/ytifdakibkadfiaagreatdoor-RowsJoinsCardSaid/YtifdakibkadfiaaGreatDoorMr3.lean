import Derived.Test.YtifdakibkadfiaaGreatDoorMr2
import Derived.Test.YtifdakibkadfiaaGreatDoorMs1
set_option linter.all false
set_option maxRecDepth 100000
set_option maxHeartbeats 8000000
section
open Go Go.Proofs
namespace Go.Ev
def zkg:List ByteArray:=[⟨#[99,111,117,110,116]⟩,⟨#[115,117,109]⟩,⟨#[109,105,110]⟩,⟨#[109,97,120]⟩]
abbrev sA:ByteArray:=⟨#[97]⟩
def zee:Expr:=.mk Ws zeroV VL sA []
def atB (e:Expr) (n:Int):Bool:=e.v.k == 2 && (e.v.s.size == 0) && decide (0 ≤ e.v.i) && decide (e.v.i < n) && (e.table.size == 0) && (e.name.size == 0) && (e.l.length == 0)
def Yi (e:Expr):Bool:=(e.op.toList == Ws.toList) || (e.op.toList == ya.toList) || ((e.op.toList == vS.toList) && jx e.name zkg)
mutual
def zG (n:Int):Expr → Expr × Bool
 | .mk op v t nm l=>if Yi (.mk op v t nm l) then (.mk op v t nm l,false) else if op.toList == sAt.toList then (zee,atB (.mk op v t nm l) n)
  else if (vh n l).2 then (.mk op v t nm (vh n l).1,true) else (.mk op v t nm l,false)
def vh (n:Int):List Expr → List Expr × Bool
 | []=>([],true)
 | x :: l=>if (zG n x).2 then ((zG n x).1 :: (vh n l).1,(vh n l).2) else ([],false)
end
theorem Zm (n:Int) (e:Expr):zG n e=if Yi e then (e,false) else if e.op.toList == sAt.toList then (zee,atB e n) else if (vh n e.l).2 then (.mk e.op e.v e.table e.name (vh n e.l).1,true) else (e,false):=by cases e;rw [zG];rfl
def ncs (n:Int) (x:Expr):List CV:=(zG n x).1.cs
theorem xg (n:Int):∀ l:List Expr,(∀ x,x ∈ l → (zG n x).2=true) → vh n l=(l.map fun x=>(zG n x).1,true)
 | [],_=>rfl
 | x :: l,h=>by rw [vh,if_pos (h x (by simp)),xg n l fun y hy=>h y (by simp [hy])];rfl
theorem xM (n:Int):∀ (l:List Expr) (x:Expr),x ∈ l → (zG n x).2=false → (vh n l).2=false
 | y :: l,x,hx,h=>by
  rw [vh]
  split
  ·rename_i hy
   rcases List.mem_cons.1 hx with rfl | hx
   ·rw [h] at hy;cases hy
   ·exact xM n l x hx h
  ·rfl
theorem xx:Good Tryz.prog 98 [cS VL,cS sA] [] zee.av []:=by
 refine Good.zg TT 4000 Tryz.func98 rfl rfl ?_
 unfold Tryz.f98
 simp only [go_sem,go_sem_proc]
 exact nlE ..
theorem zf8 (e:Expr) (n:Int) (hn:e.nodes ≤ 1000000):Good Tryz.prog 72 [e.av,cI n] [] (.tup [(zG n e).1.av,cB (zG n e).2]) []:=by
 revert hn
 induction e using Expr.ind with
 | h e ih =>
 intro hn
 have hl:e.l.length ≤ 1000000:=by have:=ZN e.l;rw [q7] at hn;omega
 rw [Zm]
 refine Good.zg TT 4000 Tryz.func72 rfl rfl ?_
 unfold Tryz.f72
 cases o1:(e.op.toList == Ws.toList)
 case true =>
  have k:Yi e=true:=by unfold Yi;rw [o1];rfl
  simp only [go_sem,o1,k,go_sem_proc]
 cases o2:(e.op.toList == ya.toList)
 case true =>
  have k:Yi e=true:=by unfold Yi;rw [o1,o2];rfl
  simp only [go_sem,o1,o2,k,go_sem_proc]
 cases o3:(e.op.toList == vS.toList)
 case true =>
  have o4:(e.op.toList == sAt.toList)=false:=by
   rw [eq_of_beq o3];exact (zF [99,97,108,108] [97,116]).trans rfl
  simp only [go_sem,o1,o2,o3,go_sem_proc]
  refine Cl.pure TT 4000 (KO e.name zkg (by decide)) rfl rfl ?_
  cases ha:jx e.name zkg
  case true =>
   have k:Yi e=true:=by unfold Yi;rw [o1,o2,o3,ha];rfl
   simp only [go_sem,k,go_sem_proc]
  have k:Yi e=false:=by unfold Yi;rw [o1,o2,o3,ha];rfl
  simp only [go_sem,k,o4,Bool.false_eq_true,go_sem_proc]
  refine Lp.atP TT 4000 3 (Nat.le_of_ble_eq_true rfl) [false,false,false,false,false,true,false,true,false,true,true,true,false,false,false,false,false,false,false,false,false,false,false,false,false,false,false,false,false,false,false,false,false,false,false,false,false,false,false,false,false,false,false,false,false,false,false,false,false,false,false,false,false,false,false,false,false,false,false,false,false,false,false,false,false,false,false,false,false,false,false,false,false,false,false,false,false,false,false,true,true,true,true,true,true,true,true,true,true,true,true,true,true,true,true,true,true] (fun j:Nat=>e.l.length - j) (fun j=>j ≤ e.l.length ∧ ∀ (i:Nat) x,i < j → e.l[i]?=some x → (zG n x).2=true) (fun j=>[(7,.sl 3 0 j),(79,cI j)]) (fun j=>[.rows 7 29 ((e.l.take j).map (ncs n))]) [3] (0) (⟨Nat.zero_le _,fun i x h=>absurd h (Nat.not_lt_zero _)⟩) ?_ ?_
  ·simp only [go_sem,go_sem_proc]
   first | done | rfl
  ·rintro j ⟨i1,i2⟩
   rcases Nat.lt_or_ge j e.l.length with hlt | hge
   ·obtain ⟨x,hx,hm,ht,hd⟩:=vj hlt
    have hw:=zh (j:=j) (by omega)
    have hmin:min j e.l.length=j:=Nat.min_eq_left (by omega)
    have hall:((e.l.take j).map (ncs n)).all (fun y=>y.length == 7)=true:=List.all_eq_true.2 fun y hy=>by
     obtain ⟨z,_,rfl⟩:=List.mem_map.1 hy
     unfold ncs;rw [Expr.zjy];rfl
    simp only [go_sem,hlt,hx,go_sem_proc]
    refine Cl.pure TT 4000 (ih x hm (by have:=xX hm;rw [q7] at hn;omega)) rfl rfl ?_
    cases hk:(zG n x).2
    ·have hbad:=xM n e.l x hm hk
     simp only [go_sem,hk,hbad,Bool.false_eq_true,go_sem_proc]
    ·have hnext:List.map (ncs n) (e.l.take j) ++ [[.str (zG n x).1.op,.int .i64 (zG n x).1.v.k,.int .i64 (zG n x).1.v.i,.str (zG n x).1.v.s,.str (zG n x).1.table,.str (zG n x).1.name,.lst 7 false ((zG n x).1.l.map Expr.cs)]]=List.map (ncs n) (e.l.take (j + 1)):=by
      rw [ht,List.map_append,List.map_cons,List.map_nil]
      congr 2
      unfold ncs;rw [Expr.Yc]
     simp only [go_sem,hk,hw,hmin,hall,List.length_map,List.length_take,Nat.zero_add,hnext,go_sem_proc]
     refine ⟨by omega,j + 1,[7],by omega,⟨by omega,fun i y hi hy=>?_⟩,rfl,⟨zq.of_eq rfl,zq.of_eq rfl⟩,rfl⟩
     rcases Nat.lt_or_ge i j with hij | hij
     ·exact i2 i y hij hy
     ·obtain rfl:i=j:=by omega
      rw [hx] at hy
      cases hy
      exact hk
   ·have:j=e.l.length:=by omega
    subst this
    have hok:=xg n e.l fun x hx=>by
     obtain ⟨k,hk,rfl⟩:=List.getElem_of_mem hx
     exact i2 k _ hk (List.getElem?_eq_getElem hk)
    have hk1:(vh n e.l).2=true:=by rw [hok]
    have hk2:(vh n e.l).1=e.l.map fun x=>(zG n x).1:=by rw [hok]
    have hk3:List.map Expr.cs (e.l.map fun x=>(zG n x).1)=List.map (ncs n) e.l:=by rw [List.map_map];rfl
    have hk4:List.take e.l.length (List.map (ncs n) e.l)=List.map (ncs n) e.l:=List.take_of_length_le (by simp)
    simp only [go_sem,Nat.lt_irrefl,List.take_length,hk1,hk2,hk3,hk4,List.length_map,Nat.zero_add,Nat.le_refl,go_sem_proc]
 have k:Yi e=false:=by unfold Yi;rw [o1,o2,o3];rfl
 cases o4:(e.op.toList == sAt.toList)
 case false =>
  simp only [go_sem,o1,o2,o3,o4,k,Bool.false_eq_true,go_sem_proc]
  refine Lp.atP TT 4000 2 (Nat.le_of_ble_eq_true rfl) [false,false,false,false,false,true,false,true,false,true,true,true,false,false,false,false,false,false,false,false,false,false,false,false,false,false,false,false,false,false,false,false,false,false,false,false,false,false,false,false,false,false,false,false,false,false,false,false,false,false,false,false,false,false,false,false,false,false,false,false,false,false,false,false,false,false,false,false,false,false,false,false,false,false,false,false,false,false,false,true,true,true,true,true,true,true,true,true,true,true,true,true,true,true,true,true,true] (fun j:Nat=>e.l.length - j) (fun j=>j ≤ e.l.length ∧ ∀ (i:Nat) x,i < j → e.l[i]?=some x → (zG n x).2=true) (fun j=>[(7,.sl 2 0 j),(79,cI j)]) (fun j=>[.rows 7 29 ((e.l.take j).map (ncs n))]) [2] (0) (⟨Nat.zero_le _,fun i x h=>absurd h (Nat.not_lt_zero _)⟩) ?_ ?_
  ·simp only [go_sem,go_sem_proc]
   first | done | rfl
  ·rintro j ⟨i1,i2⟩
   rcases Nat.lt_or_ge j e.l.length with hlt | hge
   ·obtain ⟨x,hx,hm,ht,hd⟩:=vj hlt
    have hw:=zh (j:=j) (by omega)
    have hmin:min j e.l.length=j:=Nat.min_eq_left (by omega)
    have hall:((e.l.take j).map (ncs n)).all (fun y=>y.length == 7)=true:=List.all_eq_true.2 fun y hy=>by
     obtain ⟨z,_,rfl⟩:=List.mem_map.1 hy
     unfold ncs;rw [Expr.zjy];rfl
    simp only [go_sem,hlt,hx,go_sem_proc]
    refine Cl.pure TT 4000 (ih x hm (by have:=xX hm;rw [q7] at hn;omega)) rfl rfl ?_
    cases hk:(zG n x).2
    ·have hbad:=xM n e.l x hm hk
     simp only [go_sem,hk,hbad,Bool.false_eq_true,go_sem_proc]
    ·have hnext:List.map (ncs n) (e.l.take j) ++ [[.str (zG n x).1.op,.int .i64 (zG n x).1.v.k,.int .i64 (zG n x).1.v.i,.str (zG n x).1.v.s,.str (zG n x).1.table,.str (zG n x).1.name,.lst 7 false ((zG n x).1.l.map Expr.cs)]]=List.map (ncs n) (e.l.take (j + 1)):=by
      rw [ht,List.map_append,List.map_cons,List.map_nil]
      congr 2
      unfold ncs;rw [Expr.Yc]
     simp only [go_sem,hk,hw,hmin,hall,List.length_map,List.length_take,Nat.zero_add,hnext,go_sem_proc]
     refine ⟨by omega,j + 1,[6],by omega,⟨by omega,fun i y hi hy=>?_⟩,rfl,⟨zq.of_eq rfl,zq.of_eq rfl⟩,rfl⟩
     rcases Nat.lt_or_ge i j with hij | hij
     ·exact i2 i y hij hy
     ·obtain rfl:i=j:=by omega
      rw [hx] at hy
      cases hy
      exact hk
   ·have:j=e.l.length:=by omega
    subst this
    have hok:=xg n e.l fun x hx=>by
     obtain ⟨k,hk,rfl⟩:=List.getElem_of_mem hx
     exact i2 k _ hk (List.getElem?_eq_getElem hk)
    have hk1:(vh n e.l).2=true:=by rw [hok]
    have hk2:(vh n e.l).1=e.l.map fun x=>(zG n x).1:=by rw [hok]
    have hk3:List.map Expr.cs (e.l.map fun x=>(zG n x).1)=List.map (ncs n) e.l:=by rw [List.map_map];rfl
    have hk4:List.take e.l.length (List.map (ncs n) e.l)=List.map (ncs n) e.l:=List.take_of_length_le (by simp)
    simp only [go_sem,Nat.lt_irrefl,List.take_length,hk1,hk2,hk3,hk4,List.length_map,Nat.zero_add,Nat.le_refl,go_sem_proc]
 have k2:atB e n=((((((e.v.k == 2 && (e.v.s.size == 0)) && decide (0 ≤ e.v.i)) && decide (e.v.i < n)) && (e.table.size == 0)) && (e.name.size == 0)) && (e.l.length == 0)):=rfl
 have cL:(((e.l.length:Nat):Int) == 0)=(e.l.length == 0):=zgV _ 0
 cases c1:(e.v.k == 2)
 case false =>
  have kk:atB e n=false:=by rw [k2,c1];simp only [Bool.false_and,Bool.and_false]
  simp only [go_sem,o1,o2,o3,o4,k,kk,cL,c1,go_sem_proc]
  refine Cl.pure TT 4000 xx rfl rfl ?_
  simp only [go_sem,go_sem_proc]
 cases c2:(e.v.s.size == 0)
 case false =>
  have kk:atB e n=false:=by rw [k2,c1,c2];simp only [Bool.false_and,Bool.and_false]
  simp only [go_sem,o1,o2,o3,o4,k,kk,cL,c1,c2,go_sem_proc]
  refine Cl.pure TT 4000 xx rfl rfl ?_
  simp only [go_sem,go_sem_proc]
 cases c3:decide (0 ≤ e.v.i)
 case false =>
  have kk:atB e n=false:=by rw [k2,c1,c2,c3];simp only [Bool.false_and,Bool.and_false]
  simp only [go_sem,o1,o2,o3,o4,k,kk,cL,c1,c2,c3,go_sem_proc]
  refine Cl.pure TT 4000 xx rfl rfl ?_
  simp only [go_sem,go_sem_proc]
 cases c4:decide (e.v.i < n)
 case false =>
  have kk:atB e n=false:=by rw [k2,c1,c2,c3,c4];simp only [Bool.false_and,Bool.and_false]
  simp only [go_sem,o1,o2,o3,o4,k,kk,cL,c1,c2,c3,c4,go_sem_proc]
  refine Cl.pure TT 4000 xx rfl rfl ?_
  simp only [go_sem,go_sem_proc]
 cases c5:(e.table.size == 0)
 case false =>
  have kk:atB e n=false:=by rw [k2,c1,c2,c3,c4,c5];simp only [Bool.false_and,Bool.and_false]
  simp only [go_sem,o1,o2,o3,o4,k,kk,cL,c1,c2,c3,c4,c5,go_sem_proc]
  refine Cl.pure TT 4000 xx rfl rfl ?_
  simp only [go_sem,go_sem_proc]
 cases c6:(e.name.size == 0)
 case false =>
  have kk:atB e n=false:=by rw [k2,c1,c2,c3,c4,c5,c6];simp only [Bool.false_and,Bool.and_false]
  simp only [go_sem,o1,o2,o3,o4,k,kk,cL,c1,c2,c3,c4,c5,c6,go_sem_proc]
  refine Cl.pure TT 4000 xx rfl rfl ?_
  simp only [go_sem,go_sem_proc]
 cases c7:(e.l.length == 0)
 case false =>
  have kk:atB e n=false:=by rw [k2,c1,c2,c3,c4,c5,c6,c7];simp only [Bool.false_and,Bool.and_false]
  simp only [go_sem,o1,o2,o3,o4,k,kk,cL,c1,c2,c3,c4,c5,c6,c7,go_sem_proc]
  refine Cl.pure TT 4000 xx rfl rfl ?_
  simp only [go_sem,go_sem_proc]
 have kk:atB e n=true:=by rw [k2,c1,c2,c3,c4,c5,c6,c7];rfl
 simp only [go_sem,o1,o2,o3,o4,k,kk,cL,c1,c2,c3,c4,c5,c6,c7,go_sem_proc]
 refine Cl.pure TT 4000 xx rfl rfl ?_
 simp only [go_sem,go_sem_proc]
end Go.Ev
end
section
open Go Go.Proofs
namespace Go.Ev
def Xm (e:Expr):Int:=if Jw e then (if wj e > 40 then 3 else 0) else 1
theorem zgH (e:Expr) (hn:e.nodes ≤ 1000000):Good Tryz.prog 73 [e.av] [] (cI (Xm e)) []:=by
 refine Good.zg TT 4000 Tryz.func73 rfl rfl ?_
 unfold Tryz.f73
 unfold Xm
 simp only [go_sem,go_sem_proc]
 refine Cl.pure TT 4000 (zkz e) rfl rfl ?_
 cases hm:Jw e
 ·simp only [go_sem,hm,Bool.false_eq_true,go_sem_proc]
 ·simp only [go_sem,hm,go_sem_proc]
  refine Cl.pure TT 4000 (zi7 e hn) rfl rfl ?_
  rcases Nat.lt_or_ge 40 (wj e) with h | h
  ·have h1:decide ((40:Int) < (wj e:Int))=true:=decide_eq_true (by omega)
   simp only [go_sem,hm,h,h1,go_sem_proc]
  ·have h1:decide ((40:Int) < (wj e:Int))=false:=decide_eq_false (by omega)
   have h2:¬ (wj e > 40):=by omega
   simp only [go_sem,hm,h1,h2,go_sem_proc]
theorem zaD (n:Int) (e:Expr):(zG n e).1.nodes ≤ e.nodes:=by
 induction e using Expr.ind with
 | h e ih =>
  rw [Zm]
  split
  ·exact Nat.le_refl _
  ·split
   ·rw [q7];rw [q7 e];show 1 + Expr.q8 [] ≤ _;rw [Expr.q8];omega
   ·split
    ·have key:∀ l:List Expr,(∀ x,x ∈ l → (zG n x).1.nodes ≤ x.nodes) → Expr.q8 (vh n l).1 ≤ Expr.q8 l:=fun l=>by
      induction l with
      | nil=>intro _;rw [vh];exact Nat.le_refl _
      | cons x l ihl =>
       intro h
       have h1:=h x (by simp)
       have h2:=ihl fun y hy=>h y (by simp [hy])
       rw [vh]
       split
       ·rw [Expr.q8,Expr.q8];omega
       ·rw [Expr.q8];omega
     have:=key e.l ih
     rw [q7,q7 e]
     show 1 + Expr.q8 (vh n e.l).1 ≤ _
     omega
    ·exact Nat.le_refl _
def xt (n:Int) (e:Expr):Int:=if (zG n e).2 then Xm (zG n e).1 else 1
theorem zgt (e:Expr) (n:Int) (hn:e.nodes ≤ 1000000):Good Tryz.prog 41 [e.av,cI n] [] (cI (xt n e)) []:=by
 have hn2:=Nat.le_trans (zaD n e) hn
 refine Good.zg TT 4000 Tryz.func41 rfl rfl ?_
 unfold Tryz.f41
 unfold xt
 simp only [go_sem,go_sem_proc]
 refine Cl.pure TT 4000 (zf8 e n hn) rfl rfl ?_
 cases hm:(zG n e).2
 ·simp only [go_sem,hm,Bool.false_eq_true,go_sem_proc]
 ·simp only [go_sem,hm,go_sem_proc]
  refine Cl.pure TT 4000 (zgH _ hn2) rfl rfl ?_
  simp only [go_sem,go_sem_proc]
end Go.Ev
end
