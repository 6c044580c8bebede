import Derived.Test.YtifdakibkadfiaaGreatDoorMr1
import Derived.Test.YtifdakibkadfiaaGreatDoorMe2
set_option linter.all false
set_option maxRecDepth 100000
set_option maxHeartbeats 8000000
section
open Go Go.Proofs
namespace Go.Ev
theorem r01_Same (a b:Val):Good Tryz.prog 89 [a.av,b.av] [] (cB (a.same b)) []:=by
 refine Good.of_vmQ TT 4000 Tryz.func89 rfl rfl ?_
 unfold Tryz.f89
 simp only [go_sem,go_sem_proc]
 repeat' first | (refine vm_sym (by simp only [go_sem]) ?_ ?_ <;> intro hg <;> simp only [go_sem,hg,go_sem_proc]) | (refine vm_br ?_ ?_ <;> intro hg <;> simp only [go_sem,hg,go_sem_proc])
 all_goals refine Le.of_eq (congrArg cB ?_)
 all_goals simp_all [Val.same]
def signL:List ByteArray:=[⟨#[43]⟩,⟨#[45]⟩,⟨#[42]⟩,⟨#[47]⟩,⟨#[37]⟩,⟨#[124,124]⟩]
def relL:List ByteArray:=[⟨#[61]⟩,⟨#[60,62]⟩,⟨#[60]⟩,⟨#[60,61]⟩,⟨#[62]⟩,⟨#[62,61]⟩]
theorem r07_signs (s:ByteArray):Good Tryz.prog 183 [cS s] [] (cB (inB7 s signL)) []:=by
 refine Good.of_vmQ TT 4000 Tryz.func183 rfl rfl ?_
 unfold Tryz.f183
 simp only [go_sem,go_sem_proc]
 (refine Cl.pure TT 4000 (r07_In s signL (by decide)) rfl rfl ?_;simp only [go_sem,go_sem_proc])
theorem r07_Rels (s:ByteArray):Good Tryz.prog 119 [cS s] [] (cB (inB7 s relL)) []:=by
 refine Good.of_vmQ TT 4000 Tryz.func119 rfl rfl ?_
 unfold Tryz.f119
 simp only [go_sem,go_sem_proc]
 (refine Cl.pure TT 4000 (r07_In s relL (by decide)) rfl rfl ?_;simp only [go_sem,go_sem_proc])
def zeroL:List ByteArray:=[⟨#[108,105,116]⟩,⟨#[99,111,108]⟩,⟨#[115,116,97,114]⟩]
def oneL:List ByteArray:=[⟨#[110,101,103]⟩,⟨#[110,111,116]⟩,⟨#[105,115,110,117,108,108]⟩,⟨#[110,111,116,110,117,108,108]⟩]
def twoL:List ByteArray:=[⟨#[97,110,100]⟩,⟨#[111,114]⟩,⟨#[108,105,107,101]⟩]
def partsB (op:ByteArray) (n:Nat):Bool:=
 if inB7 op zeroL then n == 0 else if inB7 op oneL then n == 1 else if inB7 op twoL || inB7 op signL || inB7 op relL then n == 2
 else if op.toList == (⟨#[98,101,116,119,101,101,110]⟩:ByteArray).toList then n == 3 else if op.toList == (⟨#[105,110]⟩:ByteArray).toList then decide (2 ≤ n) else op.toList == sCall.toList
theorem castB (n k:Nat):(((n:Nat):Int) == ((k:Nat):Int))=(n == k):=by rw [Bool.eq_iff_iff];simp;omega
theorem r07_parts (e:Expr):Good Tryz.prog 154 [e.av] [] (cB (partsB e.op e.l.length)) []:=by
 have c0:(((e.l.length:Nat):Int) == 0)=(e.l.length == 0):=castB _ 0
 have c1:(((e.l.length:Nat):Int) == 1)=(e.l.length == 1):=castB _ 1
 have c2:(((e.l.length:Nat):Int) == 2)=(e.l.length == 2):=castB _ 2
 have c3:(((e.l.length:Nat):Int) == 3)=(e.l.length == 3):=castB _ 3
 have c4:decide (((e.l.length:Nat):Int) ≥ 2)=decide (2 ≤ e.l.length):=by rw [Bool.eq_iff_iff];simp;omega
 refine Good.of_vmQ TT 4000 Tryz.func154 rfl rfl ?_
 unfold Tryz.f154
 unfold partsB
 simp only [go_sem,go_sem_proc]
 refine Cl.pure TT 4000 (r07_In e.op zeroL (by decide)) rfl rfl ?_
 cases p0:inB7 e.op zeroL
 case true=>simp only [go_sem,p0,c0,go_sem_proc]
 simp only [go_sem,p0,Bool.false_eq_true,go_sem_proc]
 refine Cl.pure TT 4000 (r07_In e.op oneL (by decide)) rfl rfl ?_
 cases p1:inB7 e.op oneL
 case true=>simp only [go_sem,p1,c1,go_sem_proc]
 simp only [go_sem,p1,Bool.false_eq_true,go_sem_proc]
 refine Cl.pure TT 4000 (r07_In e.op twoL (by decide)) rfl rfl ?_
 cases p2:inB7 e.op twoL
 case true=>simp only [go_sem,p2,c2,Bool.true_or,go_sem_proc]
 simp only [go_sem,p2,Bool.false_eq_true,go_sem_proc]
 refine Cl.pure TT 4000 (r07_signs e.op) rfl rfl ?_
 cases p3:inB7 e.op signL
 case true=>simp only [go_sem,p3,c2,Bool.true_or,Bool.false_or,go_sem_proc]
 simp only [go_sem,p3,Bool.false_eq_true,go_sem_proc]
 refine Cl.pure TT 4000 (r07_Rels e.op) rfl rfl ?_
 cases p4:inB7 e.op relL
 case true=>simp only [go_sem,p4,c2,Bool.true_or,Bool.false_or,go_sem_proc]
 simp only [go_sem,p4,Bool.false_eq_true,Bool.or_self,go_sem_proc]
 cases p5:(e.op.toList == (⟨#[98,101,116,119,101,101,110]⟩:ByteArray).toList)
 case true=>simp only [go_sem,p5,c3,go_sem_proc]
 simp only [go_sem,p5,Bool.false_eq_true,go_sem_proc]
 cases p6:(e.op.toList == (⟨#[105,110]⟩:ByteArray).toList)
 case true=>simp only [go_sem,p6,c4,go_sem_proc]
 simp only [go_sem,p6,Bool.false_eq_true,go_sem_proc]
mutual
def eqE:Expr → Expr → Bool
 | .mk op v t n l,b=>op.toList == b.op.toList && v.same b.v && t.toList == b.table.toList && n.toList == b.name.toList && l.length == b.l.length && eqL l b.l
def eqL:List Expr → List Expr → Bool
 | [],_=>true
 | _ :: _,[]=>true
 | x :: l,y :: m=>eqE x y && eqL l m
end
theorem eqE_eq (a b:Expr):eqE a b=(a.op.toList == b.op.toList && a.v.same b.v && a.table.toList == b.table.toList && a.name.toList == b.name.toList && a.l.length == b.l.length && eqL a.l b.l):=by cases a;rw [eqE];rfl
theorem same_self (v:Val):v.same v=true:=by simp [Val.same]
theorem eqL_all:∀ (l m:List Expr),l.length=m.length → (eqL l m=true ↔ ∀ (j:Nat) x y,l[j]?=some x → m[j]?=some y → eqE x y=true)
 | [],[],_=>by simp [eqL]
 | x :: l,y :: m,h=>by
  rw [eqL,Bool.and_eq_true,eqL_all l m (by simpa using h)]
  constructor
  ·rintro ⟨h1,h2⟩ j a b ha hb
   cases j with
   | zero=>simp at ha hb;subst ha hb;exact h1
   | succ j=>exact h2 j a b (by simpa using ha) (by simpa using hb)
  ·intro h3
   exact ⟨h3 0 x y rfl rfl,fun j a b ha hb=>h3 (j + 1) a b (by simpa using ha) (by simpa using hb)⟩
 | [],_ :: _,h=>by simp at h
 | _ :: _,[],h=>by simp at h
theorem r07_Same (a:Expr):∀ b:Expr,Good Tryz.prog 156 [a.av,b.av] [] (cB (eqE a b)) []:=by
 induction a using Expr.ind with
 | h a ih =>
 intro b
 refine Expr.lbound (e:=a) (by simp) fun hl=>?_
 rw [eqE_eq]
 refine Good.of_vmQ TT 4000 Tryz.func156 rfl rfl ?_
 unfold Tryz.f156
 cases o1:(a.op.toList == b.op.toList)
 case false=>simp only [go_sem,o1,Bool.false_and,go_sem_proc]
 simp only [go_sem,o1,go_sem_proc]
 refine Cl.pure TT 4000 (r01_Same a.v b.v) rfl rfl ?_
 cases o2:a.v.same b.v
 case false=>simp only [go_sem,o2,Bool.false_and,Bool.and_false,go_sem_proc]
 cases o3:(a.table.toList == b.table.toList)
 case false=>simp only [go_sem,o2,o3,Bool.false_and,Bool.and_false,go_sem_proc]
 cases o4:(a.name.toList == b.name.toList)
 case false=>simp only [go_sem,o2,o3,o4,Bool.false_and,Bool.and_false,go_sem_proc]
 by_cases o5:a.l.length=b.l.length
 case neg =>
  have o5':(a.l.length == b.l.length)=false:=beq_eq_false_iff_ne.2 o5
  have o5n:(((a.l.length:Nat):Int) != ((b.l.length:Nat):Int))=true:=by simp;omega
  simp only [go_sem,o2,o3,o4,o5',o5n,Bool.false_and,Bool.and_false,go_sem_proc]
 have o5':(a.l.length == b.l.length)=true:=beq_iff_eq.2 o5
 have o5n:(((a.l.length:Nat):Int) != ((b.l.length:Nat):Int))=false:=by simp;omega
 simp only [go_sem,o2,o3,o4,o5',o5n,go_sem_proc]
 refine Lp.at TT 4000 2 (Nat.le_of_ble_eq_true rfl) [false,false,false,false,true,true,false,false,false,false,false,false,false,false,false,false,false,false,false,false,false,false,false,false,false,false,false,false,false,false,false,false,false,false,false,false,false,false,false,false,false,false,false,false,false,true,true,true,true,true,true,true,true,true,true,true,true,true,true,true,true] (fun j:Nat=>a.l.length - j) (fun j=>j ≤ a.l.length ∧ ∀ (i:Nat) x y,i < j → a.l[i]?=some x → b.l[i]?=some y → eqE x y=true) (fun j=>[(45,cI j)]) (fun _=>[]) (0) (⟨Nat.zero_le _,fun i x y h=>absurd h (Nat.not_lt_zero _)⟩) ?_ ?_
 ·simp only [go_sem,go_sem_proc]
 ·rintro j ⟨i1,i2⟩
  rcases Nat.lt_or_ge j a.l.length with hlt | hge
  ·obtain ⟨x,hx,hm,ht,hd⟩:=getS hlt
   obtain ⟨y,hy,_,_,_⟩:=getS (l:=b.l) (j:=j) (by omega)
   have hltb:j < b.l.length:=by omega
   have hw:=wrap_succ (j:=j) (by omega)
   simp only [go_sem,hlt,go_sem_proc]
   refine Dr.ofC TT (by kernel_rfl) [(156,[x.av,y.av],cB (eqE x y))] ⟨⟨ih x hm y,rfl⟩,trivial⟩ ?_
   simp only [go_sem,hlt,hltb,hx,hy,go_sem_proc]
   refine DEnd.of TT 4000 (memOK_of2 (by kernel_rfl)) ?_
   cases hk:eqE x y
   ·have:eqL a.l b.l=false:=by
     cases hs:eqL a.l b.l
     ·rfl
     ·have:=(eqL_all a.l b.l o5).1 hs j x y hx hy
      rw [hk] at this;cases this
    simp only [go_sem,hk,this,go_sem_proc]
   ·simp only [go_sem,hk,hw,go_sem_proc]
    exact ⟨j + 1,by omega,⟨by omega,fun i u v hi hu hv=>by
     rcases Nat.lt_or_ge i j with h | h
     ·exact i2 i u v h hu hv
     ·have:i=j:=by omega
      subst this
      rw [hx] at hu;rw [hy] at hv;cases hu;cases hv;exact hk⟩,Fit1.of_eq rfl⟩
  ·have:j=a.l.length:=by omega
   subst this
   have:eqL a.l b.l=true:=(eqL_all a.l b.l o5).2 fun i x y hx hy=>i2 i x y (List.getElem?_eq_some_iff.1 hx).1 hx hy
   simp only [go_sem,Nat.lt_irrefl,this,go_sem_proc]
end Go.Ev
end
section
open Go Go.Proofs
namespace Go.Ev
theorem r06_name (s:ByteArray):Good Tryz.prog 155 [cS s] [] (cB (nameB s)) []:=by
 by_cases h:s.size ≤ 1000000000
 ·exact r06_IsName s h
 refine Good.of_vmQ TT 4000 Tryz.func155 rfl rfl ?_
 unfold Tryz.f155
 unfold nameB
 obtain ⟨c,hc⟩:∃ c,s[0]?=some c:=⟨s[0],getElem?_pos s 0 (by omega)⟩
 have e0:(s.size == 0)=false:=beq_eq_false_iff_ne.2 (by omega)
 rw [hc]
 simp only []
 have h32:(s.size:Int) > 32:=by omega
 have hd:decide (s.size ≤ 32)=false:=decide_eq_false (by omega)
 rw [hd]
 simp only [go_sem,e0,h32,go_sem_proc]
abbrev sCol:ByteArray:=⟨#[99,111,108]⟩
abbrev sStar:ByteArray:=⟨#[115,116,97,114]⟩
abbrev sCount:ByteArray:=⟨#[99,111,117,110,116]⟩
def starE:Expr:=opE sStar []
def countE (e:Expr):Bool:=(e.name.toList == sCount.toList) && (e.l.length == 1) && (match e.l with | x :: _=>x.op.toList == sStar.toList | []=>false)
mutual
def mayE:Expr → Bool
 | .mk op v t n l=>if partsB op l.length=false then false else if (op.toList == sLit.toList)=false ∧ v.same zeroV=false then false else if (op.toList == sCol.toList)=false ∧ (t.size == 0)=false then false
  else if op.toList == sLit.toList then v.ok && n.size == 0 else if op.toList == sCol.toList then nameB n && (t.size == 0 || nameB t) else if op.toList == sStar.toList then false
  else if op.toList == sCall.toList then (if nameB n=false then false else if countE (.mk op v t n l) then (match l with | x :: _=>eqE x starE | []=>false) else mayL l)
  else if (n.size == 0)=false then false else mayL l
def mayL:List Expr → Bool
 | []=>true
 | e :: l=>mayE e && mayL l
end
theorem mayE_eq (e:Expr):mayE e=if partsB e.op e.l.length=false then false else if (e.op.toList == sLit.toList)=false ∧ e.v.same zeroV=false then false else if (e.op.toList == sCol.toList)=false ∧ (e.table.size == 0)=false then false
  else if e.op.toList == sLit.toList then e.v.ok && e.name.size == 0 else if e.op.toList == sCol.toList then nameB e.name && (e.table.size == 0 || nameB e.table) else if e.op.toList == sStar.toList then false
  else if e.op.toList == sCall.toList then (if nameB e.name=false then false else if countE e then (match e.l with | x :: _=>eqE x starE | []=>false) else mayL e.l)
  else if (e.name.size == 0)=false then false else mayL e.l:=by cases e;unfold mayE;rfl
theorem mayL_append:∀ (l m:List Expr),mayL (l ++ m)=(mayL l && mayL m)
 | [],m=>by simp [mayL]
 | x :: l,m=>by simp [mayL,mayL_append l m,Bool.and_assoc]
abbrev starN:AV:=.agg [cS sStar,cI 0,cI 0,cS sNone,cS sNone,cS sNone,.c .nl]
theorem mk_star:Good Tryz.prog 34 [cS sStar,.c .nl] [] starN []:=by
 refine Good.of_vmQ TT 4000 Tryz.func34 rfl rfl ?_
 unfold Tryz.f34
 simp only [go_sem,go_sem_proc]
theorem same_star (x:Expr):Good Tryz.prog 156 [x.av,starN] [] (cB (eqE x starE)) []:=
 Good.le_args (.cons (Le.refl _) (.cons (nlE ..) .nil)) (r07_Same x starE)
theorem r07_may (e:Expr):Good Tryz.prog 99 [e.av] [] (cB (mayE e)) []:=by
 induction e using Expr.ind with
 | h e ih =>
 refine Expr.lbound (e:=e) (by simp) fun hl=>?_
 rw [mayE_eq]
 refine Good.of_vmQ TT 4000 Tryz.func99 rfl rfl ?_
 unfold Tryz.f99
 simp only [go_sem,go_sem_proc]
 refine Cl.pure TT 4000 (r07_parts e) rfl rfl ?_
 cases pp:partsB e.op e.l.length
 case false=>simp only [go_sem,pp,go_sem_proc]
 cases ol:(e.op.toList == sLit.toList)
 case true =>
  have oc:(e.op.toList == sCol.toList)=false:=by
   rw [eq_of_beq ol];exact (bs_eq [108,105,116] [99,111,108]).trans rfl
  cases ot:(e.table.size == 0)
  ·simp only [go_sem,pp,ol,oc,ot,Bool.true_eq_false,go_sem_proc]
  ·simp only [go_sem,pp,ol,oc,ot,Bool.true_eq_false,go_sem_proc]
   refine Cl.pure TT 4000 (ref_Check e.v) rfl rfl ?_
   cases hv:e.v.ok
   ·simp only [go_sem,hv,Bool.false_eq_true,go_sem_proc]
   ·simp only [go_sem,hv,go_sem_proc]
 simp only [go_sem,pp,ol,Bool.true_eq_false,Bool.false_eq_true,go_sem_proc]
 refine Cl.pure TT 4000 (r01_Same e.v zeroV) rfl rfl ?_
 cases hz:e.v.same zeroV
 case false=>simp only [go_sem,ol,hz,go_sem_proc]
 cases oc:(e.op.toList == sCol.toList)
 case true =>
  simp only [go_sem,ol,hz,oc,Bool.true_eq_false,Bool.false_eq_true,go_sem_proc]
  refine Cl.pure TT 4000 (r06_name e.name) rfl rfl ?_
  cases hn:nameB e.name
  ·simp only [go_sem,ol,hn,go_sem_proc]
  ·cases ot:(e.table.size == 0)
   ·simp only [go_sem,ol,hn,ot,go_sem_proc]
    refine Cl.pure TT 4000 (r06_name e.table) rfl rfl ?_
    simp only [go_sem,go_sem_proc]
   ·simp only [go_sem,ol,hn,ot,go_sem_proc]
 cases ot:(e.table.size == 0)
 case false=>simp only [go_sem,ol,hz,oc,ot,Bool.true_eq_false,Bool.false_eq_true,go_sem_proc]
 cases os:(e.op.toList == sStar.toList)
 case true=>simp only [go_sem,ol,hz,oc,ot,os,Bool.true_eq_false,Bool.false_eq_true,go_sem_proc]
 cases ok:(e.op.toList == sCall.toList)
 case false =>
  cases on:(e.name.size == 0)
  case false=>simp only [go_sem,ol,hz,oc,ot,os,ok,on,Bool.true_eq_false,Bool.false_eq_true,go_sem_proc]
  simp only [go_sem,ol,hz,oc,ot,os,ok,on,Bool.true_eq_false,Bool.false_eq_true,go_sem_proc]
  refine Lp.at TT 4000 1 (Nat.le_of_ble_eq_true rfl) [false,false,true,false,false,true,false,false,false,false,false,false,false,false,false,false,false,false,false,false,false,false,false,false,false,false,false,false,false,false,false,false,false,false,false,false,false,false,false,false,false,false,false,false,false,false,false,false,false,false,false,false,false,false,false,false,false,false,false,false,false,false,false,false,false,false,false,false,false,false,false,false,false,false,false,false,false,false,false,false,false,false,false,false,false,false,false,false,false,false,false,false,false,false,false,false,false,true,true,true,true,true,true,true,true] (fun j:Nat=>e.l.length - j) (fun j=>j ≤ e.l.length ∧ mayL (e.l.take j)=true) (fun j=>[(97,cI j)]) (fun _=>[]) (0) (⟨Nat.zero_le _,rfl⟩) ?_ ?_
  ·simp only [go_sem,go_sem_proc]
  ·rintro j ⟨i1,i2⟩
   rcases Nat.lt_or_ge j e.l.length with hlt | hge
   ·obtain ⟨x,hx,hm,ht,hd⟩:=getS hlt
    have hw:=wrap_succ (j:=j) (by omega)
    simp only [go_sem,hlt,hx,go_sem_proc]
    refine Cl.pure TT 4000 (ih x hm) rfl rfl ?_
    cases hk:mayE x
    ·have:mayL e.l=false:=by
      rw [← List.take_append_drop j e.l,hd,mayL_append]
      simp [mayL,hk]
     simp only [go_sem,hk,this,go_sem_proc]
    ·simp only [go_sem,hk,hw,go_sem_proc]
     exact ⟨j + 1,by omega,⟨by omega,by rw [ht,mayL_append,i2];simp [mayL,hk]⟩,Fit1.of_eq rfl⟩
   ·have:j=e.l.length:=by omega
    subst this
    rw [List.take_length] at i2
    simp only [go_sem,Nat.lt_irrefl,i2,go_sem_proc]
 simp only [go_sem,ol,hz,oc,ot,os,ok,Bool.true_eq_false,Bool.false_eq_true,go_sem_proc]
 refine Cl.pure TT 4000 (r06_name e.name) rfl rfl ?_
 cases hn:nameB e.name
 case false=>simp only [go_sem,ol,hn,Bool.true_eq_false,Bool.false_eq_true,go_sem_proc]
 cases kc:(e.name.toList == sCount.toList)
 case false =>
  have kk:countE e=false:=by unfold countE;rw [kc];rfl
  simp only [go_sem,ol,hn,kc,kk,Bool.true_eq_false,Bool.false_eq_true,go_sem_proc]
  refine Lp.at TT 4000 1 (Nat.le_of_ble_eq_true rfl) [false,false,true,false,false,true,false,false,false,false,false,false,false,false,false,false,false,false,false,false,false,false,false,false,false,false,false,false,false,false,false,false,false,false,false,false,false,false,false,false,false,false,false,false,false,false,false,false,false,false,false,false,false,false,false,false,false,false,false,false,false,false,false,false,false,false,false,false,false,false,false,false,false,false,false,false,false,false,false,false,false,false,false,false,false,false,false,false,false,false,false,false,false,false,false,false,false,true,true,true,true,true,true,true,true] (fun j:Nat=>e.l.length - j) (fun j=>j ≤ e.l.length ∧ mayL (e.l.take j)=true) (fun j=>[(97,cI j)]) (fun _=>[]) (0) (⟨Nat.zero_le _,rfl⟩) ?_ ?_
  ·simp only [go_sem,go_sem_proc]
  ·rintro j ⟨i1,i2⟩
   rcases Nat.lt_or_ge j e.l.length with hlt | hge
   ·obtain ⟨x,hx,hm,ht,hd⟩:=getS hlt
    have hw:=wrap_succ (j:=j) (by omega)
    simp only [go_sem,hlt,hx,go_sem_proc]
    refine Cl.pure TT 4000 (ih x hm) rfl rfl ?_
    cases hk:mayE x
    ·have:mayL e.l=false:=by
      rw [← List.take_append_drop j e.l,hd,mayL_append]
      simp [mayL,hk]
     simp only [go_sem,hk,this,go_sem_proc]
    ·simp only [go_sem,hk,hw,go_sem_proc]
     exact ⟨j + 1,by omega,⟨by omega,by rw [ht,mayL_append,i2];simp [mayL,hk]⟩,Fit1.of_eq rfl⟩
   ·have:j=e.l.length:=by omega
    subst this
    rw [List.take_length] at i2
    simp only [go_sem,Nat.lt_irrefl,i2,go_sem_proc]
 rcases hel:e.l with _ | ⟨x,l⟩
 ·have kk:countE e=false:=by unfold countE;rw [hel];simp
  have q1:(((e.l.length:Nat):Int) == 1)=false:=by rw [hel];rfl
  rw [← hel]
  simp only [go_sem,ol,hn,kc,kk,q1,Bool.true_eq_false,Bool.false_eq_true,go_sem_proc]
  refine Lp.at TT 4000 1 (Nat.le_of_ble_eq_true rfl) [false,false,true,false,false,true,false,false,false,false,false,false,false,false,false,false,false,false,false,false,false,false,false,false,false,false,false,false,false,false,false,false,false,false,false,false,false,false,false,false,false,false,false,false,false,false,false,false,false,false,false,false,false,false,false,false,false,false,false,false,false,false,false,false,false,false,false,false,false,false,false,false,false,false,false,false,false,false,false,false,false,false,false,false,false,false,false,false,false,false,false,false,false,false,false,false,false,true,true,true,true,true,true,true,true] (fun j:Nat=>e.l.length - j) (fun j=>j ≤ e.l.length ∧ mayL (e.l.take j)=true) (fun j=>[(97,cI j)]) (fun _=>[]) (0) (⟨Nat.zero_le _,rfl⟩) ?_ ?_
  ·simp only [go_sem,go_sem_proc]
  ·rintro j ⟨i1,i2⟩
   rcases Nat.lt_or_ge j e.l.length with hlt | hge
   ·obtain ⟨x,hx,hm,ht,hd⟩:=getS hlt
    have hw:=wrap_succ (j:=j) (by omega)
    simp only [go_sem,hlt,hx,go_sem_proc]
    refine Cl.pure TT 4000 (ih x hm) rfl rfl ?_
    cases hk:mayE x
    ·have:mayL e.l=false:=by
      rw [← List.take_append_drop j e.l,hd,mayL_append]
      simp [mayL,hk]
     simp only [go_sem,hk,this,go_sem_proc]
    ·simp only [go_sem,hk,hw,go_sem_proc]
     exact ⟨j + 1,by omega,⟨by omega,by rw [ht,mayL_append,i2];simp [mayL,hk]⟩,Fit1.of_eq rfl⟩
   ·have:j=e.l.length:=by omega
    subst this
    rw [List.take_length] at i2
    simp only [go_sem,Nat.lt_irrefl,i2,go_sem_proc]
 ·have hspec:(match e.l with | x :: _=>eqE x starE | []=>false)=eqE x starE:=by rw [hel]
  rw [← hel]
  have hx0:e.l[0]?=some x:=by rw [hel];rfl
  have hlt0:0 < e.l.length:=by rw [hel];simp
  have hlt0':(0:Int) < ((e.l.length:Nat):Int):=by omega
  by_cases h1:l=[]
  ·have q1:(((e.l.length:Nat):Int) == 1)=true:=by rw [hel,h1];rfl
   cases ks:(x.op.toList == sStar.toList)
   ·have kk:countE e=false:=by unfold countE;rw [hel];simp only [ks,Bool.and_false]
    simp only [go_sem,ol,hn,kc,kk,q1,hx0,hlt0,hlt0',ks,Bool.true_eq_false,Bool.false_eq_true,go_sem_proc]
    refine Lp.at TT 4000 1 (Nat.le_of_ble_eq_true rfl) [false,false,true,false,false,true,false,false,false,false,false,false,false,false,false,false,false,false,false,false,false,false,false,false,false,false,false,false,false,false,false,false,false,false,false,false,false,false,false,false,false,false,false,false,false,false,false,false,false,false,false,false,false,false,false,false,false,false,false,false,false,false,false,false,false,false,false,false,false,false,false,false,false,false,false,false,false,false,false,false,false,false,false,false,false,false,false,false,false,false,false,false,false,false,false,false,false,true,true,true,true,true,true,true,true] (fun j:Nat=>e.l.length - j) (fun j=>j ≤ e.l.length ∧ mayL (e.l.take j)=true) (fun j=>[(97,cI j)]) (fun _=>[]) (0) (⟨Nat.zero_le _,rfl⟩) ?_ ?_
    ·simp only [go_sem,go_sem_proc]
    ·rintro j ⟨i1,i2⟩
     rcases Nat.lt_or_ge j e.l.length with hlt | hge
     ·obtain ⟨x,hx,hm,ht,hd⟩:=getS hlt
      have hw:=wrap_succ (j:=j) (by omega)
      simp only [go_sem,hlt,hx,go_sem_proc]
      refine Cl.pure TT 4000 (ih x hm) rfl rfl ?_
      cases hk:mayE x
      ·have:mayL e.l=false:=by
        rw [← List.take_append_drop j e.l,hd,mayL_append]
        simp [mayL,hk]
       simp only [go_sem,hk,this,go_sem_proc]
      ·simp only [go_sem,hk,hw,go_sem_proc]
       exact ⟨j + 1,by omega,⟨by omega,by rw [ht,mayL_append,i2];simp [mayL,hk]⟩,Fit1.of_eq rfl⟩
     ·have:j=e.l.length:=by omega
      subst this
      rw [List.take_length] at i2
      simp only [go_sem,Nat.lt_irrefl,i2,go_sem_proc]
   ·have kk:countE e=true:=by unfold countE;rw [hel,h1];simp only [ks,kc];rfl
    simp only [go_sem,ol,hn,kc,kk,q1,hx0,hlt0,hlt0',ks,hspec,Bool.true_eq_false,Bool.false_eq_true,go_sem_proc]
    refine Dr.ofC TT (by kernel_rfl) [(34,[cS sStar,.c .nl],starN),(156,[x.av,starN],cB (eqE x starE))] ⟨⟨mk_star,rfl⟩,⟨same_star x,rfl⟩,trivial⟩ ?_
    simp only [go_sem,go_sem_proc]
    refine DEnd.of TT 4000 (memOK_of2 (by kernel_rfl)) ?_
    simp only [go_sem,go_sem_proc]
  ·have kk:countE e=false:=by
    unfold countE;rw [hel]
    cases l with
    | nil=>exact absurd rfl h1
    | cons y l=>simp
   have q1:(((e.l.length:Nat):Int) == 1)=false:=by
    rw [hel]
    cases l with
    | nil=>exact absurd rfl h1
    | cons y l=>simp;omega
   simp only [go_sem,ol,hn,kc,kk,q1,Bool.true_eq_false,Bool.false_eq_true,go_sem_proc]
   refine Lp.at TT 4000 1 (Nat.le_of_ble_eq_true rfl) [false,false,true,false,false,true,false,false,false,false,false,false,false,false,false,false,false,false,false,false,false,false,false,false,false,false,false,false,false,false,false,false,false,false,false,false,false,false,false,false,false,false,false,false,false,false,false,false,false,false,false,false,false,false,false,false,false,false,false,false,false,false,false,false,false,false,false,false,false,false,false,false,false,false,false,false,false,false,false,false,false,false,false,false,false,false,false,false,false,false,false,false,false,false,false,false,false,true,true,true,true,true,true,true,true] (fun j:Nat=>e.l.length - j) (fun j=>j ≤ e.l.length ∧ mayL (e.l.take j)=true) (fun j=>[(97,cI j)]) (fun _=>[]) (0) (⟨Nat.zero_le _,rfl⟩) ?_ ?_
   ·simp only [go_sem,go_sem_proc]
   ·rintro j ⟨i1,i2⟩
    rcases Nat.lt_or_ge j e.l.length with hlt | hge
    ·obtain ⟨x,hx,hm,ht,hd⟩:=getS hlt
     have hw:=wrap_succ (j:=j) (by omega)
     simp only [go_sem,hlt,hx,go_sem_proc]
     refine Cl.pure TT 4000 (ih x hm) rfl rfl ?_
     cases hk:mayE x
     ·have:mayL e.l=false:=by
       rw [← List.take_append_drop j e.l,hd,mayL_append]
       simp [mayL,hk]
      simp only [go_sem,hk,this,go_sem_proc]
     ·simp only [go_sem,hk,hw,go_sem_proc]
      exact ⟨j + 1,by omega,⟨by omega,by rw [ht,mayL_append,i2];simp [mayL,hk]⟩,Fit1.of_eq rfl⟩
    ·have:j=e.l.length:=by omega
     subst this
     rw [List.take_length] at i2
     simp only [go_sem,Nat.lt_irrefl,i2,go_sem_proc]
end Go.Ev
end
