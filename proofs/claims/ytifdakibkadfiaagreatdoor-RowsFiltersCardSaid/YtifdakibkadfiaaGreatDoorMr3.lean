import Derived.Test.YtifdakibkadfiaaGreatDoorMr2
import Derived.Test.YtifdakibkadfiaaGreatDoorMs1
set_option linter.all false
set_option maxRecDepth 100000
set_option maxHeartbeats 8000000
section
open Go Go.Proofs
namespace Go.Ev
def aggL:List ByteArray:=[⟨#[99,111,117,110,116]⟩,⟨#[115,117,109]⟩,⟨#[109,105,110]⟩,⟨#[109,97,120]⟩]
abbrev sA:ByteArray:=⟨#[97]⟩
def colA:Expr:=.mk sCol zeroV sNone sA []
def atB (e:Expr) (n:Int):Bool:=e.v.k == 2 && (e.v.s.size == 0) && decide (0 ≤ e.v.i) && decide (e.v.i < n) && (e.table.size == 0) && (e.name.size == 0) && (e.l.length == 0)
def notP (e:Expr):Bool:=(e.op.toList == sCol.toList) || (e.op.toList == sStar.toList) || ((e.op.toList == sCall.toList) && inB7 e.name aggL)
mutual
def namedE (n:Int):Expr → Expr × Bool
 | .mk op v t nm l=>if notP (.mk op v t nm l) then (.mk op v t nm l,false) else if op.toList == sAt.toList then (colA,atB (.mk op v t nm l) n)
  else if (namedL n l).2 then (.mk op v t nm (namedL n l).1,true) else (.mk op v t nm l,false)
def namedL (n:Int):List Expr → List Expr × Bool
 | []=>([],true)
 | x :: l=>if (namedE n x).2 then ((namedE n x).1 :: (namedL n l).1,(namedL n l).2) else ([],false)
end
theorem namedE_eq (n:Int) (e:Expr):namedE n e=if notP e then (e,false) else if e.op.toList == sAt.toList then (colA,atB e n) else if (namedL n e.l).2 then (.mk e.op e.v e.table e.name (namedL n e.l).1,true) else (e,false):=by cases e;rw [namedE];rfl
def ncs (n:Int) (x:Expr):List CV:=(namedE n x).1.cs
theorem namedL_ok (n:Int):∀ l:List Expr,(∀ x,x ∈ l → (namedE n x).2=true) → namedL n l=(l.map fun x=>(namedE n x).1,true)
 | [],_=>rfl
 | x :: l,h=>by rw [namedL,if_pos (h x (by simp)),namedL_ok n l fun y hy=>h y (by simp [hy])];rfl
theorem namedL_bad (n:Int):∀ (l:List Expr) (x:Expr),x ∈ l → (namedE n x).2=false → (namedL n l).2=false
 | y :: l,x,hx,h=>by
  rw [namedL]
  split
  ·rename_i hy
   rcases List.mem_cons.1 hx with rfl | hx
   ·rw [h] at hy;cases hy
   ·exact namedL_bad n l x hx h
  ·rfl
theorem r07_Col:Good Tryz.prog 98 [cS sNone,cS sA] [] colA.av []:=by
 refine Good.of_vmQ TT 4000 Tryz.func98 rfl rfl ?_
 unfold Tryz.f98
 simp only [go_sem,go_sem_proc]
 exact nlE ..
theorem r10_named (e:Expr) (n:Int) (hn:e.nodes ≤ 1000000):Good Tryz.prog 72 [e.av,cI n] [] (.tup [(namedE n e).1.av,cB (namedE n e).2]) []:=by
 revert hn
 induction e using Expr.ind with
 | h e ih =>
 intro hn
 have hl:e.l.length ≤ 1000000:=by have:=nodesL_len e.l;rw [nodes_eq] at hn;omega
 rw [namedE_eq]
 refine Good.of_vmQ TT 4000 Tryz.func72 rfl rfl ?_
 unfold Tryz.f72
 cases o1:(e.op.toList == sCol.toList)
 case true =>
  have k:notP e=true:=by unfold notP;rw [o1];rfl
  simp only [go_sem,o1,k,go_sem_proc]
 cases o2:(e.op.toList == sStar.toList)
 case true =>
  have k:notP e=true:=by unfold notP;rw [o1,o2];rfl
  simp only [go_sem,o1,o2,k,go_sem_proc]
 cases o3:(e.op.toList == sCall.toList)
 case true =>
  have o4:(e.op.toList == sAt.toList)=false:=by
   rw [eq_of_beq o3];exact (bs_eq [99,97,108,108] [97,116]).trans rfl
  simp only [go_sem,o1,o2,o3,go_sem_proc]
  refine Cl.pure TT 4000 (r07_In e.name aggL (by decide)) rfl rfl ?_
  cases ha:inB7 e.name aggL
  case true =>
   have k:notP e=true:=by unfold notP;rw [o1,o2,o3,ha];rfl
   simp only [go_sem,k,go_sem_proc]
  have k:notP e=false:=by unfold notP;rw [o1,o2,o3,ha];rfl
  simp only [go_sem,k,o4,Bool.false_eq_true,go_sem_proc]
  refine Lp.atP TT 4000 3 (Nat.le_of_ble_eq_true rfl) [false,false,false,false,false,true,false,true,false,true,true,true,false,false,false,false,false,false,false,false,false,false,false,false,false,false,false,false,false,false,false,false,false,false,false,false,false,false,false,false,false,false,false,false,false,false,false,false,false,false,false,false,false,false,false,false,false,false,false,false,false,false,false,false,false,false,false,false,false,false,false,false,false,false,false,false,false,false,false,true,true,true,true,true,true,true,true,true,true,true,true,true,true,true,true,true,true] (fun j:Nat=>e.l.length - j) (fun j=>j ≤ e.l.length ∧ ∀ (i:Nat) x,i < j → e.l[i]?=some x → (namedE n x).2=true) (fun j=>[(7,.sl 3 0 j),(79,cI j)]) (fun j=>[.rows 7 29 ((e.l.take j).map (ncs n))]) [3] (0) (⟨Nat.zero_le _,fun i x h=>absurd h (Nat.not_lt_zero _)⟩) ?_ ?_
  ·simp only [go_sem,go_sem_proc]
   first | done | rfl
  ·rintro j ⟨i1,i2⟩
   rcases Nat.lt_or_ge j e.l.length with hlt | hge
   ·obtain ⟨x,hx,hm,ht,hd⟩:=getS hlt
    have hw:=wrap_succ (j:=j) (by omega)
    have hmin:min j e.l.length=j:=Nat.min_eq_left (by omega)
    have hall:((e.l.take j).map (ncs n)).all (fun y=>y.length == 7)=true:=List.all_eq_true.2 fun y hy=>by
     obtain ⟨z,_,rfl⟩:=List.mem_map.1 hy
     unfold ncs;rw [Expr.cs_len];rfl
    simp only [go_sem,hlt,hx,go_sem_proc]
    refine Cl.pure TT 4000 (ih x hm (by have:=nodesL_mem hm;rw [nodes_eq] at hn;omega)) rfl rfl ?_
    cases hk:(namedE n x).2
    ·have hbad:=namedL_bad n e.l x hm hk
     simp only [go_sem,hk,hbad,Bool.false_eq_true,go_sem_proc]
    ·have hnext:List.map (ncs n) (e.l.take j) ++ [[.str (namedE n x).1.op,.int .i64 (namedE n x).1.v.k,.int .i64 (namedE n x).1.v.i,.str (namedE n x).1.v.s,.str (namedE n x).1.table,.str (namedE n x).1.name,.lst 7 false ((namedE n x).1.l.map Expr.cs)]]=List.map (ncs n) (e.l.take (j + 1)):=by
      rw [ht,List.map_append,List.map_cons,List.map_nil]
      congr 2
      unfold ncs;rw [Expr.cs_eq]
     simp only [go_sem,hk,hw,hmin,hall,List.length_map,List.length_take,Nat.zero_add,hnext,go_sem_proc]
     refine ⟨by omega,j + 1,[7],by omega,⟨by omega,fun i y hi hy=>?_⟩,rfl,⟨Fit1.of_eq rfl,Fit1.of_eq rfl⟩,rfl⟩
     rcases Nat.lt_or_ge i j with hij | hij
     ·exact i2 i y hij hy
     ·obtain rfl:i=j:=by omega
      rw [hx] at hy
      cases hy
      exact hk
   ·have:j=e.l.length:=by omega
    subst this
    have hok:=namedL_ok n e.l fun x hx=>by
     obtain ⟨k,hk,rfl⟩:=List.getElem_of_mem hx
     exact i2 k _ hk (List.getElem?_eq_getElem hk)
    have hk1:(namedL n e.l).2=true:=by rw [hok]
    have hk2:(namedL n e.l).1=e.l.map fun x=>(namedE n x).1:=by rw [hok]
    have hk3:List.map Expr.cs (e.l.map fun x=>(namedE n x).1)=List.map (ncs n) e.l:=by rw [List.map_map];rfl
    have hk4:List.take e.l.length (List.map (ncs n) e.l)=List.map (ncs n) e.l:=List.take_of_length_le (by simp)
    simp only [go_sem,Nat.lt_irrefl,List.take_length,hk1,hk2,hk3,hk4,List.length_map,Nat.zero_add,Nat.le_refl,go_sem_proc]
 have k:notP e=false:=by unfold notP;rw [o1,o2,o3];rfl
 cases o4:(e.op.toList == sAt.toList)
 case false =>
  simp only [go_sem,o1,o2,o3,o4,k,Bool.false_eq_true,go_sem_proc]
  refine Lp.atP TT 4000 2 (Nat.le_of_ble_eq_true rfl) [false,false,false,false,false,true,false,true,false,true,true,true,false,false,false,false,false,false,false,false,false,false,false,false,false,false,false,false,false,false,false,false,false,false,false,false,false,false,false,false,false,false,false,false,false,false,false,false,false,false,false,false,false,false,false,false,false,false,false,false,false,false,false,false,false,false,false,false,false,false,false,false,false,false,false,false,false,false,false,true,true,true,true,true,true,true,true,true,true,true,true,true,true,true,true,true,true] (fun j:Nat=>e.l.length - j) (fun j=>j ≤ e.l.length ∧ ∀ (i:Nat) x,i < j → e.l[i]?=some x → (namedE n x).2=true) (fun j=>[(7,.sl 2 0 j),(79,cI j)]) (fun j=>[.rows 7 29 ((e.l.take j).map (ncs n))]) [2] (0) (⟨Nat.zero_le _,fun i x h=>absurd h (Nat.not_lt_zero _)⟩) ?_ ?_
  ·simp only [go_sem,go_sem_proc]
   first | done | rfl
  ·rintro j ⟨i1,i2⟩
   rcases Nat.lt_or_ge j e.l.length with hlt | hge
   ·obtain ⟨x,hx,hm,ht,hd⟩:=getS hlt
    have hw:=wrap_succ (j:=j) (by omega)
    have hmin:min j e.l.length=j:=Nat.min_eq_left (by omega)
    have hall:((e.l.take j).map (ncs n)).all (fun y=>y.length == 7)=true:=List.all_eq_true.2 fun y hy=>by
     obtain ⟨z,_,rfl⟩:=List.mem_map.1 hy
     unfold ncs;rw [Expr.cs_len];rfl
    simp only [go_sem,hlt,hx,go_sem_proc]
    refine Cl.pure TT 4000 (ih x hm (by have:=nodesL_mem hm;rw [nodes_eq] at hn;omega)) rfl rfl ?_
    cases hk:(namedE n x).2
    ·have hbad:=namedL_bad n e.l x hm hk
     simp only [go_sem,hk,hbad,Bool.false_eq_true,go_sem_proc]
    ·have hnext:List.map (ncs n) (e.l.take j) ++ [[.str (namedE n x).1.op,.int .i64 (namedE n x).1.v.k,.int .i64 (namedE n x).1.v.i,.str (namedE n x).1.v.s,.str (namedE n x).1.table,.str (namedE n x).1.name,.lst 7 false ((namedE n x).1.l.map Expr.cs)]]=List.map (ncs n) (e.l.take (j + 1)):=by
      rw [ht,List.map_append,List.map_cons,List.map_nil]
      congr 2
      unfold ncs;rw [Expr.cs_eq]
     simp only [go_sem,hk,hw,hmin,hall,List.length_map,List.length_take,Nat.zero_add,hnext,go_sem_proc]
     refine ⟨by omega,j + 1,[6],by omega,⟨by omega,fun i y hi hy=>?_⟩,rfl,⟨Fit1.of_eq rfl,Fit1.of_eq rfl⟩,rfl⟩
     rcases Nat.lt_or_ge i j with hij | hij
     ·exact i2 i y hij hy
     ·obtain rfl:i=j:=by omega
      rw [hx] at hy
      cases hy
      exact hk
   ·have:j=e.l.length:=by omega
    subst this
    have hok:=namedL_ok n e.l fun x hx=>by
     obtain ⟨k,hk,rfl⟩:=List.getElem_of_mem hx
     exact i2 k _ hk (List.getElem?_eq_getElem hk)
    have hk1:(namedL n e.l).2=true:=by rw [hok]
    have hk2:(namedL n e.l).1=e.l.map fun x=>(namedE n x).1:=by rw [hok]
    have hk3:List.map Expr.cs (e.l.map fun x=>(namedE n x).1)=List.map (ncs n) e.l:=by rw [List.map_map];rfl
    have hk4:List.take e.l.length (List.map (ncs n) e.l)=List.map (ncs n) e.l:=List.take_of_length_le (by simp)
    simp only [go_sem,Nat.lt_irrefl,List.take_length,hk1,hk2,hk3,hk4,List.length_map,Nat.zero_add,Nat.le_refl,go_sem_proc]
 have k2:atB e n=((((((e.v.k == 2 && (e.v.s.size == 0)) && decide (0 ≤ e.v.i)) && decide (e.v.i < n)) && (e.table.size == 0)) && (e.name.size == 0)) && (e.l.length == 0)):=rfl
 have cL:(((e.l.length:Nat):Int) == 0)=(e.l.length == 0):=castB _ 0
 cases c1:(e.v.k == 2)
 case false =>
  have kk:atB e n=false:=by rw [k2,c1];simp only [Bool.false_and,Bool.and_false]
  simp only [go_sem,o1,o2,o3,o4,k,kk,cL,c1,go_sem_proc]
  refine Cl.pure TT 4000 r07_Col rfl rfl ?_
  simp only [go_sem,go_sem_proc]
 cases c2:(e.v.s.size == 0)
 case false =>
  have kk:atB e n=false:=by rw [k2,c1,c2];simp only [Bool.false_and,Bool.and_false]
  simp only [go_sem,o1,o2,o3,o4,k,kk,cL,c1,c2,go_sem_proc]
  refine Cl.pure TT 4000 r07_Col rfl rfl ?_
  simp only [go_sem,go_sem_proc]
 cases c3:decide (0 ≤ e.v.i)
 case false =>
  have kk:atB e n=false:=by rw [k2,c1,c2,c3];simp only [Bool.false_and,Bool.and_false]
  simp only [go_sem,o1,o2,o3,o4,k,kk,cL,c1,c2,c3,go_sem_proc]
  refine Cl.pure TT 4000 r07_Col rfl rfl ?_
  simp only [go_sem,go_sem_proc]
 cases c4:decide (e.v.i < n)
 case false =>
  have kk:atB e n=false:=by rw [k2,c1,c2,c3,c4];simp only [Bool.false_and,Bool.and_false]
  simp only [go_sem,o1,o2,o3,o4,k,kk,cL,c1,c2,c3,c4,go_sem_proc]
  refine Cl.pure TT 4000 r07_Col rfl rfl ?_
  simp only [go_sem,go_sem_proc]
 cases c5:(e.table.size == 0)
 case false =>
  have kk:atB e n=false:=by rw [k2,c1,c2,c3,c4,c5];simp only [Bool.false_and,Bool.and_false]
  simp only [go_sem,o1,o2,o3,o4,k,kk,cL,c1,c2,c3,c4,c5,go_sem_proc]
  refine Cl.pure TT 4000 r07_Col rfl rfl ?_
  simp only [go_sem,go_sem_proc]
 cases c6:(e.name.size == 0)
 case false =>
  have kk:atB e n=false:=by rw [k2,c1,c2,c3,c4,c5,c6];simp only [Bool.false_and,Bool.and_false]
  simp only [go_sem,o1,o2,o3,o4,k,kk,cL,c1,c2,c3,c4,c5,c6,go_sem_proc]
  refine Cl.pure TT 4000 r07_Col rfl rfl ?_
  simp only [go_sem,go_sem_proc]
 cases c7:(e.l.length == 0)
 case false =>
  have kk:atB e n=false:=by rw [k2,c1,c2,c3,c4,c5,c6,c7];simp only [Bool.false_and,Bool.and_false]
  simp only [go_sem,o1,o2,o3,o4,k,kk,cL,c1,c2,c3,c4,c5,c6,c7,go_sem_proc]
  refine Cl.pure TT 4000 r07_Col rfl rfl ?_
  simp only [go_sem,go_sem_proc]
 have kk:atB e n=true:=by rw [k2,c1,c2,c3,c4,c5,c6,c7];rfl
 simp only [go_sem,o1,o2,o3,o4,k,kk,cL,c1,c2,c3,c4,c5,c6,c7,go_sem_proc]
 refine Cl.pure TT 4000 r07_Col rfl rfl ?_
 simp only [go_sem,go_sem_proc]
end Go.Ev
end
section
open Go Go.Proofs
namespace Go.Ev
def checkE (e:Expr):Int:=if mayE e then (if deepE e > 40 then 3 else 0) else 1
theorem r07_Check (e:Expr) (hn:e.nodes ≤ 1000000):Good Tryz.prog 73 [e.av] [] (cI (checkE e)) []:=by
 refine Good.of_vmQ TT 4000 Tryz.func73 rfl rfl ?_
 unfold Tryz.f73
 unfold checkE
 simp only [go_sem,go_sem_proc]
 refine Cl.pure TT 4000 (r07_may e) rfl rfl ?_
 cases hm:mayE e
 ·simp only [go_sem,hm,Bool.false_eq_true,go_sem_proc]
 ·simp only [go_sem,hm,go_sem_proc]
  refine Cl.pure TT 4000 (r07_Deep e hn) rfl rfl ?_
  rcases Nat.lt_or_ge 40 (deepE e) with h | h
  ·have h1:decide ((40:Int) < (deepE e:Int))=true:=decide_eq_true (by omega)
   simp only [go_sem,hm,h,h1,go_sem_proc]
  ·have h1:decide ((40:Int) < (deepE e:Int))=false:=decide_eq_false (by omega)
   have h2:¬ (deepE e > 40):=by omega
   simp only [go_sem,hm,h1,h2,go_sem_proc]
theorem named_nodes (n:Int) (e:Expr):(namedE n e).1.nodes ≤ e.nodes:=by
 induction e using Expr.ind with
 | h e ih =>
  rw [namedE_eq]
  split
  ·exact Nat.le_refl _
  ·split
   ·rw [nodes_eq];rw [nodes_eq e];show 1 + Expr.nodesL [] ≤ _;rw [Expr.nodesL];omega
   ·split
    ·have key:∀ l:List Expr,(∀ x,x ∈ l → (namedE n x).1.nodes ≤ x.nodes) → Expr.nodesL (namedL n l).1 ≤ Expr.nodesL l:=fun l=>by
      induction l with
      | nil=>intro _;rw [namedL];exact Nat.le_refl _
      | cons x l ihl =>
       intro h
       have h1:=h x (by simp)
       have h2:=ihl fun y hy=>h y (by simp [hy])
       rw [namedL]
       split
       ·rw [Expr.nodesL,Expr.nodesL];omega
       ·rw [Expr.nodesL];omega
     have:=key e.l ih
     rw [nodes_eq,nodes_eq e]
     show 1 + Expr.nodesL (namedL n e.l).1 ≤ _
     omega
    ·exact Nat.le_refl _
def checkN (n:Int) (e:Expr):Int:=if (namedE n e).2 then checkE (namedE n e).1 else 1
theorem r10_Check (e:Expr) (n:Int) (hn:e.nodes ≤ 1000000):Good Tryz.prog 41 [e.av,cI n] [] (cI (checkN n e)) []:=by
 have hn2:=Nat.le_trans (named_nodes n e) hn
 refine Good.of_vmQ TT 4000 Tryz.func41 rfl rfl ?_
 unfold Tryz.f41
 unfold checkN
 simp only [go_sem,go_sem_proc]
 refine Cl.pure TT 4000 (r10_named e n hn) rfl rfl ?_
 cases hm:(namedE n e).2
 ·simp only [go_sem,hm,Bool.false_eq_true,go_sem_proc]
 ·simp only [go_sem,hm,go_sem_proc]
  refine Cl.pure TT 4000 (r07_Check _ hn2) rfl rfl ?_
  simp only [go_sem,go_sem_proc]
end Go.Ev
end
