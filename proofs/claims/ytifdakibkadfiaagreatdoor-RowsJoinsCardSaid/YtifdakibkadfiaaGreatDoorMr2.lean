import Derived.Test.YtifdakibkadfiaaGreatDoorMr1
import Derived.Test.YtifdakibkadfiaaGreatDoorMe2
set_option linter.all false
set_option maxRecDepth 100000
set_option maxHeartbeats 8000000
section
open Go Go.Proofs
namespace Go.Ev
theorem zbP (a b:Val):Good Tryz.prog 89 [a.av,b.av] [] (cB (a.same b)) []:=by
 refine Good.zg TT 4000 Tryz.func89 rfl rfl ?_
 unfold Tryz.f89
 simp only [go_sem,go_sem_proc]
 repeat' first | (refine wZ (by simp only [go_sem]) ?_ ?_ <;> intro hg <;> simp only [go_sem,hg,go_sem_proc]) | (refine QB ?_ ?_ <;> intro hg <;> simp only [go_sem,hg,go_sem_proc])
 all_goals refine Le.of_eq (congrArg cB ?_)
 all_goals simp_all [Val.same]
def JS:List ByteArray:=[⟨#[43]⟩,⟨#[45]⟩,⟨#[42]⟩,⟨#[47]⟩,⟨#[37]⟩,⟨#[124,124]⟩]
def JZ:List ByteArray:=[⟨#[61]⟩,⟨#[60,62]⟩,⟨#[60]⟩,⟨#[60,61]⟩,⟨#[62]⟩,⟨#[62,61]⟩]
theorem zf7 (s:ByteArray):Good Tryz.prog 183 [cS s] [] (cB (jx s JS)) []:=by
 refine Good.zg TT 4000 Tryz.func183 rfl rfl ?_
 unfold Tryz.f183
 simp only [go_sem,go_sem_proc]
 (refine Cl.pure TT 4000 (KO s JS (by decide)) rfl rfl ?_;simp only [go_sem,go_sem_proc])
theorem zbp (s:ByteArray):Good Tryz.prog 119 [cS s] [] (cB (jx s JZ)) []:=by
 refine Good.zg TT 4000 Tryz.func119 rfl rfl ?_
 unfold Tryz.f119
 simp only [go_sem,go_sem_proc]
 (refine Cl.pure TT 4000 (KO s JZ (by decide)) rfl rfl ?_;simp only [go_sem,go_sem_proc])
def X9:List ByteArray:=[⟨#[108,105,116]⟩,⟨#[99,111,108]⟩,⟨#[115,116,97,114]⟩]
def zk8:List ByteArray:=[⟨#[110,101,103]⟩,⟨#[110,111,116]⟩,⟨#[105,115,110,117,108,108]⟩,⟨#[110,111,116,110,117,108,108]⟩]
def zjL:List ByteArray:=[⟨#[97,110,100]⟩,⟨#[111,114]⟩,⟨#[108,105,107,101]⟩]
def vg (op:ByteArray) (n:Nat):Bool:=
 if jx op X9 then n == 0 else if jx op zk8 then n == 1 else if jx op zjL || jx op JS || jx op JZ then n == 2
 else if op.toList == (⟨#[98,101,116,119,101,101,110]⟩:ByteArray).toList then n == 3 else if op.toList == (⟨#[105,110]⟩:ByteArray).toList then decide (2 ≤ n) else op.toList == vS.toList
theorem zgV (n k:Nat):(((n:Nat):Int) == ((k:Nat):Int))=(n == k):=by rw [Bool.eq_iff_iff];simp;omega
theorem zeF (e:Expr):Good Tryz.prog 154 [e.av] [] (cB (vg e.op e.l.length)) []:=by
 have c0:(((e.l.length:Nat):Int) == 0)=(e.l.length == 0):=zgV _ 0
 have c1:(((e.l.length:Nat):Int) == 1)=(e.l.length == 1):=zgV _ 1
 have c2:(((e.l.length:Nat):Int) == 2)=(e.l.length == 2):=zgV _ 2
 have c3:(((e.l.length:Nat):Int) == 3)=(e.l.length == 3):=zgV _ 3
 have c4:decide (((e.l.length:Nat):Int) ≥ 2)=decide (2 ≤ e.l.length):=by rw [Bool.eq_iff_iff];simp;omega
 refine Good.zg TT 4000 Tryz.func154 rfl rfl ?_
 unfold Tryz.f154
 unfold vg
 simp only [go_sem,go_sem_proc]
 refine Cl.pure TT 4000 (KO e.op X9 (by decide)) rfl rfl ?_
 cases p0:jx e.op X9
 case true=>simp only [go_sem,p0,c0,go_sem_proc]
 simp only [go_sem,p0,Bool.false_eq_true,go_sem_proc]
 refine Cl.pure TT 4000 (KO e.op zk8 (by decide)) rfl rfl ?_
 cases p1:jx e.op zk8
 case true=>simp only [go_sem,p1,c1,go_sem_proc]
 simp only [go_sem,p1,Bool.false_eq_true,go_sem_proc]
 refine Cl.pure TT 4000 (KO e.op zjL (by decide)) rfl rfl ?_
 cases p2:jx e.op zjL
 case true=>simp only [go_sem,p2,c2,Bool.true_or,go_sem_proc]
 simp only [go_sem,p2,Bool.false_eq_true,go_sem_proc]
 refine Cl.pure TT 4000 (zf7 e.op) rfl rfl ?_
 cases p3:jx e.op JS
 case true=>simp only [go_sem,p3,c2,Bool.true_or,Bool.false_or,go_sem_proc]
 simp only [go_sem,p3,Bool.false_eq_true,go_sem_proc]
 refine Cl.pure TT 4000 (zbp e.op) rfl rfl ?_
 cases p4:jx e.op JZ
 case true=>simp only [go_sem,p4,c2,Bool.true_or,Bool.false_or,go_sem_proc]
 simp only [go_sem,p4,Bool.false_eq_true,Bool.or_self,go_sem_proc]
 cases p5:(e.op.toList == (⟨#[98,101,116,119,101,101,110]⟩:ByteArray).toList)
 case true=>simp only [go_sem,p5,c3,go_sem_proc]
 simp only [go_sem,p5,Bool.false_eq_true,go_sem_proc]
 cases p6:(e.op.toList == (⟨#[105,110]⟩:ByteArray).toList)
 case true=>simp only [go_sem,p6,c4,go_sem_proc]
 simp only [go_sem,p6,Bool.false_eq_true,go_sem_proc]
mutual
def eqE:Expr → Expr → Bool
 | .mk op v t n l,b=>op.toList == b.op.toList && v.same b.v && t.toList == b.table.toList && n.toList == b.name.toList && l.length == b.l.length && eqL l b.l
def eqL:List Expr → List Expr → Bool
 | [],_=>true
 | _ :: _,[]=>true
 | x :: l,y :: m=>eqE x y && eqL l m
end
theorem zlM (a b:Expr):eqE a b=(a.op.toList == b.op.toList && a.v.same b.v && a.table.toList == b.table.toList && a.name.toList == b.name.toList && a.l.length == b.l.length && eqL a.l b.l):=by cases a;rw [eqE];rfl
theorem zg6 (v:Val):v.same v=true:=by simp [Val.same]
theorem zaz:∀ (l m:List Expr),l.length=m.length → (eqL l m=true ↔ ∀ (j:Nat) x y,l[j]?=some x → m[j]?=some y → eqE x y=true)
 | [],[],_=>by simp [eqL]
 | x :: l,y :: m,h=>by
  rw [eqL,Bool.and_eq_true,zaz l m (by simpa using h)]
  constructor
  ·rintro ⟨h1,h2⟩ j a b ha hb
   cases j with
   | zero=>simp at ha hb;subst ha hb;exact h1
   | succ j=>exact h2 j a b (by simpa using ha) (by simpa using hb)
  ·intro h3
   exact ⟨h3 0 x y rfl rfl,fun j a b ha hb=>h3 (j + 1) a b (by simpa using ha) (by simpa using hb)⟩
 | [],_ :: _,h=>by simp at h
 | _ :: _,[],h=>by simp at h
theorem zhD (a:Expr):∀ b:Expr,Good Tryz.prog 156 [a.av,b.av] [] (cB (eqE a b)) []:=by
 induction a using Expr.ind with
 | h a ih =>
 intro b
 refine Expr.zbQ (e:=a) (by simp) fun hl=>?_
 rw [zlM]
 refine Good.zg TT 4000 Tryz.func156 rfl rfl ?_
 unfold Tryz.f156
 cases o1:(a.op.toList == b.op.toList)
 case false=>simp only [go_sem,o1,Bool.false_and,go_sem_proc]
 simp only [go_sem,o1,go_sem_proc]
 refine Cl.pure TT 4000 (zbP a.v b.v) rfl rfl ?_
 cases o2:a.v.same b.v
 case false=>simp only [go_sem,o2,Bool.false_and,Bool.and_false,go_sem_proc]
 cases o3:(a.table.toList == b.table.toList)
 case false=>simp only [go_sem,o2,o3,Bool.false_and,Bool.and_false,go_sem_proc]
 cases o4:(a.name.toList == b.name.toList)
 case false=>simp only [go_sem,o2,o3,o4,Bool.false_and,Bool.and_false,go_sem_proc]
 by_cases o5:a.l.length=b.l.length
 case neg =>
  have o5':(a.l.length == b.l.length)=false:=beq_eq_false_iff_ne.2 o5
  have o5n:(((a.l.length:Nat):Int) != ((b.l.length:Nat):Int))=true:=by simp;omega
  simp only [go_sem,o2,o3,o4,o5',o5n,Bool.false_and,Bool.and_false,go_sem_proc]
 have o5':(a.l.length == b.l.length)=true:=beq_iff_eq.2 o5
 have o5n:(((a.l.length:Nat):Int) != ((b.l.length:Nat):Int))=false:=by simp;omega
 simp only [go_sem,o2,o3,o4,o5',o5n,go_sem_proc]
 refine Lp.at TT 4000 2 (Nat.le_of_ble_eq_true rfl) [false,false,false,false,true,true,false,false,false,false,false,false,false,false,false,false,false,false,false,false,false,false,false,false,false,false,false,false,false,false,false,false,false,false,false,false,false,false,false,false,false,false,false,false,false,true,true,true,true,true,true,true,true,true,true,true,true,true,true,true,true] (fun j:Nat=>a.l.length - j) (fun j=>j ≤ a.l.length ∧ ∀ (i:Nat) x y,i < j → a.l[i]?=some x → b.l[i]?=some y → eqE x y=true) (fun j=>[(45,cI j)]) (fun _=>[]) (0) (⟨Nat.zero_le _,fun i x y h=>absurd h (Nat.not_lt_zero _)⟩) ?_ ?_
 ·simp only [go_sem,go_sem_proc]
 ·rintro j ⟨i1,i2⟩
  rcases Nat.lt_or_ge j a.l.length with hlt | hge
  ·obtain ⟨x,hx,hm,ht,hd⟩:=vj hlt
   obtain ⟨y,hy,_,_,_⟩:=vj (l:=b.l) (j:=j) (by omega)
   have hltb:j < b.l.length:=by omega
   have hw:=zh (j:=j) (by omega)
   simp only [go_sem,hlt,go_sem_proc]
   refine Dr.ofC TT (by kernel_rfl) [(156,[x.av,y.av],cB (eqE x y))] ⟨⟨ih x hm y,rfl⟩,trivial⟩ ?_
   simp only [go_sem,hlt,hltb,hx,hy,go_sem_proc]
   refine jy.of TT 4000 (zJ (by kernel_rfl)) ?_
   cases hk:eqE x y
   ·have:eqL a.l b.l=false:=by
     cases hs:eqL a.l b.l
     ·rfl
     ·have:=(zaz a.l b.l o5).1 hs j x y hx hy
      rw [hk] at this;cases this
    simp only [go_sem,hk,this,go_sem_proc]
   ·simp only [go_sem,hk,hw,go_sem_proc]
    exact ⟨j + 1,by omega,⟨by omega,fun i u v hi hu hv=>by
     rcases Nat.lt_or_ge i j with h | h
     ·exact i2 i u v h hu hv
     ·have:i=j:=by omega
      subst this
      rw [hx] at hu;rw [hy] at hv;cases hu;cases hv;exact hk⟩,zq.of_eq rfl⟩
  ·have:j=a.l.length:=by omega
   subst this
   have:eqL a.l b.l=true:=(zaz a.l b.l o5).2 fun i x y hx hy=>i2 i x y (List.getElem?_eq_some_iff.1 hx).1 hx hy
   simp only [go_sem,Nat.lt_irrefl,this,go_sem_proc]
end Go.Ev
end
section
open Go Go.Proofs
namespace Go.Ev
theorem J1 (s:ByteArray):Good Tryz.prog 155 [cS s] [] (cB (kR s)) []:=by
 by_cases h:s.size ≤ 1000000000
 ·exact zdr s h
 refine Good.zg TT 4000 Tryz.func155 rfl rfl ?_
 unfold Tryz.f155
 unfold kR
 obtain ⟨c,hc⟩:∃ c,s[0]?=some c:=⟨s[0],getElem?_pos s 0 (by omega)⟩
 have e0:(s.size == 0)=false:=beq_eq_false_iff_ne.2 (by omega)
 rw [hc]
 simp only []
 have h32:(s.size:Int) > 32:=by omega
 have hd:decide (s.size ≤ 32)=false:=decide_eq_false (by omega)
 rw [hd]
 simp only [go_sem,e0,h32,go_sem_proc]
abbrev Ws:ByteArray:=⟨#[99,111,108]⟩
abbrev ya:ByteArray:=⟨#[115,116,97,114]⟩
abbrev za9:ByteArray:=⟨#[99,111,117,110,116]⟩
def XS:Expr:=opE ya []
def vO (e:Expr):Bool:=(e.name.toList == za9.toList) && (e.l.length == 1) && (match e.l with | x :: _=>x.op.toList == ya.toList | []=>false)
mutual
def Jw:Expr → Bool
 | .mk op v t n l=>if vg op l.length=false then false else if (op.toList == wz.toList)=false ∧ v.same zeroV=false then false else if (op.toList == Ws.toList)=false ∧ (t.size == 0)=false then false
  else if op.toList == wz.toList then v.ok && n.size == 0 else if op.toList == Ws.toList then kR n && (t.size == 0 || kR t) else if op.toList == ya.toList then false
  else if op.toList == vS.toList then (if kR n=false then false else if vO (.mk op v t n l) then (match l with | x :: _=>eqE x XS | []=>false) else xf l)
  else if (n.size == 0)=false then false else xf l
def xf:List Expr → Bool
 | []=>true
 | e :: l=>Jw e && xf l
end
theorem za5 (e:Expr):Jw e=if vg e.op e.l.length=false then false else if (e.op.toList == wz.toList)=false ∧ e.v.same zeroV=false then false else if (e.op.toList == Ws.toList)=false ∧ (e.table.size == 0)=false then false
  else if e.op.toList == wz.toList then e.v.ok && e.name.size == 0 else if e.op.toList == Ws.toList then kR e.name && (e.table.size == 0 || kR e.table) else if e.op.toList == ya.toList then false
  else if e.op.toList == vS.toList then (if kR e.name=false then false else if vO e then (match e.l with | x :: _=>eqE x XS | []=>false) else xf e.l)
  else if (e.name.size == 0)=false then false else xf e.l:=by cases e;unfold Jw;rfl
theorem qB:∀ (l m:List Expr),xf (l ++ m)=(xf l && xf m)
 | [],m=>by simp [xf]
 | x :: l,m=>by simp [xf,qB l m,Bool.and_assoc]
abbrev ziX:AV:=.agg [cS ya,cI 0,cI 0,cS VL,cS VL,cS VL,.c .nl]
theorem zkJ:Good Tryz.prog 34 [cS ya,.c .nl] [] ziX []:=by
 refine Good.zg TT 4000 Tryz.func34 rfl rfl ?_
 unfold Tryz.f34
 simp only [go_sem,go_sem_proc]
theorem zhe (x:Expr):Good Tryz.prog 156 [x.av,ziX] [] (cB (eqE x XS)) []:=
 Good.zkq (.cons (Le.refl _) (.cons (nlE ..) .nil)) (zhD x XS)
theorem zkz (e:Expr):Good Tryz.prog 99 [e.av] [] (cB (Jw e)) []:=by
 induction e using Expr.ind with
 | h e ih =>
 refine Expr.zbQ (e:=e) (by simp) fun hl=>?_
 rw [za5]
 refine Good.zg TT 4000 Tryz.func99 rfl rfl ?_
 unfold Tryz.f99
 simp only [go_sem,go_sem_proc]
 refine Cl.pure TT 4000 (zeF e) rfl rfl ?_
 cases pp:vg e.op e.l.length
 case false=>simp only [go_sem,pp,go_sem_proc]
 cases ol:(e.op.toList == wz.toList)
 case true =>
  have oc:(e.op.toList == Ws.toList)=false:=by
   rw [eq_of_beq ol];exact (zF [108,105,116] [99,111,108]).trans rfl
  cases ot:(e.table.size == 0)
  ·simp only [go_sem,pp,ol,oc,ot,Bool.true_eq_false,go_sem_proc]
  ·simp only [go_sem,pp,ol,oc,ot,Bool.true_eq_false,go_sem_proc]
   refine Cl.pure TT 4000 (ZA e.v) rfl rfl ?_
   cases hv:e.v.ok
   ·simp only [go_sem,hv,Bool.false_eq_true,go_sem_proc]
   ·simp only [go_sem,hv,go_sem_proc]
 simp only [go_sem,pp,ol,Bool.true_eq_false,Bool.false_eq_true,go_sem_proc]
 refine Cl.pure TT 4000 (zbP e.v zeroV) rfl rfl ?_
 cases hz:e.v.same zeroV
 case false=>simp only [go_sem,ol,hz,go_sem_proc]
 cases oc:(e.op.toList == Ws.toList)
 case true =>
  simp only [go_sem,ol,hz,oc,Bool.true_eq_false,Bool.false_eq_true,go_sem_proc]
  refine Cl.pure TT 4000 (J1 e.name) rfl rfl ?_
  cases hn:kR e.name
  ·simp only [go_sem,ol,hn,go_sem_proc]
  ·cases ot:(e.table.size == 0)
   ·simp only [go_sem,ol,hn,ot,go_sem_proc]
    refine Cl.pure TT 4000 (J1 e.table) rfl rfl ?_
    simp only [go_sem,go_sem_proc]
   ·simp only [go_sem,ol,hn,ot,go_sem_proc]
 cases ot:(e.table.size == 0)
 case false=>simp only [go_sem,ol,hz,oc,ot,Bool.true_eq_false,Bool.false_eq_true,go_sem_proc]
 cases os:(e.op.toList == ya.toList)
 case true=>simp only [go_sem,ol,hz,oc,ot,os,Bool.true_eq_false,Bool.false_eq_true,go_sem_proc]
 cases ok:(e.op.toList == vS.toList)
 case false =>
  cases on:(e.name.size == 0)
  case false=>simp only [go_sem,ol,hz,oc,ot,os,ok,on,Bool.true_eq_false,Bool.false_eq_true,go_sem_proc]
  simp only [go_sem,ol,hz,oc,ot,os,ok,on,Bool.true_eq_false,Bool.false_eq_true,go_sem_proc]
  refine Lp.at TT 4000 1 (Nat.le_of_ble_eq_true rfl) [false,false,true,false,false,true,false,false,false,false,false,false,false,false,false,false,false,false,false,false,false,false,false,false,false,false,false,false,false,false,false,false,false,false,false,false,false,false,false,false,false,false,false,false,false,false,false,false,false,false,false,false,false,false,false,false,false,false,false,false,false,false,false,false,false,false,false,false,false,false,false,false,false,false,false,false,false,false,false,false,false,false,false,false,false,false,false,false,false,false,false,false,false,false,false,false,false,true,true,true,true,true,true,true,true] (fun j:Nat=>e.l.length - j) (fun j=>j ≤ e.l.length ∧ xf (e.l.take j)=true) (fun j=>[(97,cI j)]) (fun _=>[]) (0) (⟨Nat.zero_le _,rfl⟩) ?_ ?_
  ·simp only [go_sem,go_sem_proc]
  ·rintro j ⟨i1,i2⟩
   rcases Nat.lt_or_ge j e.l.length with hlt | hge
   ·obtain ⟨x,hx,hm,ht,hd⟩:=vj hlt
    have hw:=zh (j:=j) (by omega)
    simp only [go_sem,hlt,hx,go_sem_proc]
    refine Cl.pure TT 4000 (ih x hm) rfl rfl ?_
    cases hk:Jw x
    ·have:xf e.l=false:=by
      rw [← List.take_append_drop j e.l,hd,qB]
      simp [xf,hk]
     simp only [go_sem,hk,this,go_sem_proc]
    ·simp only [go_sem,hk,hw,go_sem_proc]
     exact ⟨j + 1,by omega,⟨by omega,by rw [ht,qB,i2];simp [xf,hk]⟩,zq.of_eq rfl⟩
   ·have:j=e.l.length:=by omega
    subst this
    rw [List.take_length] at i2
    simp only [go_sem,Nat.lt_irrefl,i2,go_sem_proc]
 simp only [go_sem,ol,hz,oc,ot,os,ok,Bool.true_eq_false,Bool.false_eq_true,go_sem_proc]
 refine Cl.pure TT 4000 (J1 e.name) rfl rfl ?_
 cases hn:kR e.name
 case false=>simp only [go_sem,ol,hn,Bool.true_eq_false,Bool.false_eq_true,go_sem_proc]
 cases kc:(e.name.toList == za9.toList)
 case false =>
  have kk:vO e=false:=by unfold vO;rw [kc];rfl
  simp only [go_sem,ol,hn,kc,kk,Bool.true_eq_false,Bool.false_eq_true,go_sem_proc]
  refine Lp.at TT 4000 1 (Nat.le_of_ble_eq_true rfl) [false,false,true,false,false,true,false,false,false,false,false,false,false,false,false,false,false,false,false,false,false,false,false,false,false,false,false,false,false,false,false,false,false,false,false,false,false,false,false,false,false,false,false,false,false,false,false,false,false,false,false,false,false,false,false,false,false,false,false,false,false,false,false,false,false,false,false,false,false,false,false,false,false,false,false,false,false,false,false,false,false,false,false,false,false,false,false,false,false,false,false,false,false,false,false,false,false,true,true,true,true,true,true,true,true] (fun j:Nat=>e.l.length - j) (fun j=>j ≤ e.l.length ∧ xf (e.l.take j)=true) (fun j=>[(97,cI j)]) (fun _=>[]) (0) (⟨Nat.zero_le _,rfl⟩) ?_ ?_
  ·simp only [go_sem,go_sem_proc]
  ·rintro j ⟨i1,i2⟩
   rcases Nat.lt_or_ge j e.l.length with hlt | hge
   ·obtain ⟨x,hx,hm,ht,hd⟩:=vj hlt
    have hw:=zh (j:=j) (by omega)
    simp only [go_sem,hlt,hx,go_sem_proc]
    refine Cl.pure TT 4000 (ih x hm) rfl rfl ?_
    cases hk:Jw x
    ·have:xf e.l=false:=by
      rw [← List.take_append_drop j e.l,hd,qB]
      simp [xf,hk]
     simp only [go_sem,hk,this,go_sem_proc]
    ·simp only [go_sem,hk,hw,go_sem_proc]
     exact ⟨j + 1,by omega,⟨by omega,by rw [ht,qB,i2];simp [xf,hk]⟩,zq.of_eq rfl⟩
   ·have:j=e.l.length:=by omega
    subst this
    rw [List.take_length] at i2
    simp only [go_sem,Nat.lt_irrefl,i2,go_sem_proc]
 rcases hel:e.l with _ | ⟨x,l⟩
 ·have kk:vO e=false:=by unfold vO;rw [hel];simp
  have q1:(((e.l.length:Nat):Int) == 1)=false:=by rw [hel];rfl
  rw [← hel]
  simp only [go_sem,ol,hn,kc,kk,q1,Bool.true_eq_false,Bool.false_eq_true,go_sem_proc]
  refine Lp.at TT 4000 1 (Nat.le_of_ble_eq_true rfl) [false,false,true,false,false,true,false,false,false,false,false,false,false,false,false,false,false,false,false,false,false,false,false,false,false,false,false,false,false,false,false,false,false,false,false,false,false,false,false,false,false,false,false,false,false,false,false,false,false,false,false,false,false,false,false,false,false,false,false,false,false,false,false,false,false,false,false,false,false,false,false,false,false,false,false,false,false,false,false,false,false,false,false,false,false,false,false,false,false,false,false,false,false,false,false,false,false,true,true,true,true,true,true,true,true] (fun j:Nat=>e.l.length - j) (fun j=>j ≤ e.l.length ∧ xf (e.l.take j)=true) (fun j=>[(97,cI j)]) (fun _=>[]) (0) (⟨Nat.zero_le _,rfl⟩) ?_ ?_
  ·simp only [go_sem,go_sem_proc]
  ·rintro j ⟨i1,i2⟩
   rcases Nat.lt_or_ge j e.l.length with hlt | hge
   ·obtain ⟨x,hx,hm,ht,hd⟩:=vj hlt
    have hw:=zh (j:=j) (by omega)
    simp only [go_sem,hlt,hx,go_sem_proc]
    refine Cl.pure TT 4000 (ih x hm) rfl rfl ?_
    cases hk:Jw x
    ·have:xf e.l=false:=by
      rw [← List.take_append_drop j e.l,hd,qB]
      simp [xf,hk]
     simp only [go_sem,hk,this,go_sem_proc]
    ·simp only [go_sem,hk,hw,go_sem_proc]
     exact ⟨j + 1,by omega,⟨by omega,by rw [ht,qB,i2];simp [xf,hk]⟩,zq.of_eq rfl⟩
   ·have:j=e.l.length:=by omega
    subst this
    rw [List.take_length] at i2
    simp only [go_sem,Nat.lt_irrefl,i2,go_sem_proc]
 ·have hspec:(match e.l with | x :: _=>eqE x XS | []=>false)=eqE x XS:=by rw [hel]
  rw [← hel]
  have hx0:e.l[0]?=some x:=by rw [hel];rfl
  have hlt0:0 < e.l.length:=by rw [hel];simp
  have hlt0':(0:Int) < ((e.l.length:Nat):Int):=by omega
  by_cases h1:l=[]
  ·have q1:(((e.l.length:Nat):Int) == 1)=true:=by rw [hel,h1];rfl
   cases ks:(x.op.toList == ya.toList)
   ·have kk:vO e=false:=by unfold vO;rw [hel];simp only [ks,Bool.and_false]
    simp only [go_sem,ol,hn,kc,kk,q1,hx0,hlt0,hlt0',ks,Bool.true_eq_false,Bool.false_eq_true,go_sem_proc]
    refine Lp.at TT 4000 1 (Nat.le_of_ble_eq_true rfl) [false,false,true,false,false,true,false,false,false,false,false,false,false,false,false,false,false,false,false,false,false,false,false,false,false,false,false,false,false,false,false,false,false,false,false,false,false,false,false,false,false,false,false,false,false,false,false,false,false,false,false,false,false,false,false,false,false,false,false,false,false,false,false,false,false,false,false,false,false,false,false,false,false,false,false,false,false,false,false,false,false,false,false,false,false,false,false,false,false,false,false,false,false,false,false,false,false,true,true,true,true,true,true,true,true] (fun j:Nat=>e.l.length - j) (fun j=>j ≤ e.l.length ∧ xf (e.l.take j)=true) (fun j=>[(97,cI j)]) (fun _=>[]) (0) (⟨Nat.zero_le _,rfl⟩) ?_ ?_
    ·simp only [go_sem,go_sem_proc]
    ·rintro j ⟨i1,i2⟩
     rcases Nat.lt_or_ge j e.l.length with hlt | hge
     ·obtain ⟨x,hx,hm,ht,hd⟩:=vj hlt
      have hw:=zh (j:=j) (by omega)
      simp only [go_sem,hlt,hx,go_sem_proc]
      refine Cl.pure TT 4000 (ih x hm) rfl rfl ?_
      cases hk:Jw x
      ·have:xf e.l=false:=by
        rw [← List.take_append_drop j e.l,hd,qB]
        simp [xf,hk]
       simp only [go_sem,hk,this,go_sem_proc]
      ·simp only [go_sem,hk,hw,go_sem_proc]
       exact ⟨j + 1,by omega,⟨by omega,by rw [ht,qB,i2];simp [xf,hk]⟩,zq.of_eq rfl⟩
     ·have:j=e.l.length:=by omega
      subst this
      rw [List.take_length] at i2
      simp only [go_sem,Nat.lt_irrefl,i2,go_sem_proc]
   ·have kk:vO e=true:=by unfold vO;rw [hel,h1];simp only [ks,kc];rfl
    simp only [go_sem,ol,hn,kc,kk,q1,hx0,hlt0,hlt0',ks,hspec,Bool.true_eq_false,Bool.false_eq_true,go_sem_proc]
    refine Dr.ofC TT (by kernel_rfl) [(34,[cS ya,.c .nl],ziX),(156,[x.av,ziX],cB (eqE x XS))] ⟨⟨zkJ,rfl⟩,⟨zhe x,rfl⟩,trivial⟩ ?_
    simp only [go_sem,go_sem_proc]
    refine jy.of TT 4000 (zJ (by kernel_rfl)) ?_
    simp only [go_sem,go_sem_proc]
  ·have kk:vO e=false:=by
    unfold vO;rw [hel]
    cases l with
    | nil=>exact absurd rfl h1
    | cons y l=>simp
   have q1:(((e.l.length:Nat):Int) == 1)=false:=by
    rw [hel]
    cases l with
    | nil=>exact absurd rfl h1
    | cons y l=>simp;omega
   simp only [go_sem,ol,hn,kc,kk,q1,Bool.true_eq_false,Bool.false_eq_true,go_sem_proc]
   refine Lp.at TT 4000 1 (Nat.le_of_ble_eq_true rfl) [false,false,true,false,false,true,false,false,false,false,false,false,false,false,false,false,false,false,false,false,false,false,false,false,false,false,false,false,false,false,false,false,false,false,false,false,false,false,false,false,false,false,false,false,false,false,false,false,false,false,false,false,false,false,false,false,false,false,false,false,false,false,false,false,false,false,false,false,false,false,false,false,false,false,false,false,false,false,false,false,false,false,false,false,false,false,false,false,false,false,false,false,false,false,false,false,false,true,true,true,true,true,true,true,true] (fun j:Nat=>e.l.length - j) (fun j=>j ≤ e.l.length ∧ xf (e.l.take j)=true) (fun j=>[(97,cI j)]) (fun _=>[]) (0) (⟨Nat.zero_le _,rfl⟩) ?_ ?_
   ·simp only [go_sem,go_sem_proc]
   ·rintro j ⟨i1,i2⟩
    rcases Nat.lt_or_ge j e.l.length with hlt | hge
    ·obtain ⟨x,hx,hm,ht,hd⟩:=vj hlt
     have hw:=zh (j:=j) (by omega)
     simp only [go_sem,hlt,hx,go_sem_proc]
     refine Cl.pure TT 4000 (ih x hm) rfl rfl ?_
     cases hk:Jw x
     ·have:xf e.l=false:=by
       rw [← List.take_append_drop j e.l,hd,qB]
       simp [xf,hk]
      simp only [go_sem,hk,this,go_sem_proc]
     ·simp only [go_sem,hk,hw,go_sem_proc]
      exact ⟨j + 1,by omega,⟨by omega,by rw [ht,qB,i2];simp [xf,hk]⟩,zq.of_eq rfl⟩
    ·have:j=e.l.length:=by omega
     subst this
     rw [List.take_length] at i2
     simp only [go_sem,Nat.lt_irrefl,i2,go_sem_proc]
end Go.Ev
end
