import Derived.Test.YtifdakibkadfiaaGreatDoorMe6
import Derived.Test.YtifdakibkadfiaaGreatDoorMr3
import Derived.Test.YtifdakibkadfiaaGreatDoorMs7
import Derived.Test.YtifdakibkadfiaaGreatDoorMr1
set_option linter.all false
set_option maxRecDepth 100000
set_option maxHeartbeats 8000000
section
open Go Go.Proofs Go.RowKit
namespace Go.Ev
theorem zlm {e:Expr} {n:Int} (h:atB e n=true):0 ≤ e.v.i ∧ e.v.i < n:=by
 unfold atB at h;simp only [Bool.and_eq_true,decide_eq_true_eq] at h
 exact ⟨h.1.1.1.1.2,h.1.1.1.2⟩
theorem ziL (e:Expr):Expr.All (fun x=>x.v.s.size ≤ 100000) e → wtE e ≤ 100000 * e.nodes:=by
 induction e using Expr.ind with
 | h e ih =>
  intro h
  rw [Expr.vu] at h
  rw [ze9,q7]
  have hL:wtL e.l ≤ 100000 * Expr.q8 e.l:=by
   have key:∀ l:List Expr,(∀ x,x ∈ l → wtE x ≤ 100000 * x.nodes) → wtL l ≤ 100000 * Expr.q8 l:=fun l=>by
    induction l with
    | nil=>intro _;exact Nat.zero_le _
    | cons x l ihl =>
     intro hx
     rw [wtL,Expr.q8]
     have h1:=hx x (by simp)
     have h2:=ihl fun y hy=>hx y (by simp [hy])
     omega
   exact key e.l fun x hx=>ih x hx (h.2 x hx)
  have:=h.1
  split
  ·omega
  ·split <;> omega
def ZX (e:Expr):Bool:=vg e.op e.l.length && ((e.op.toList == wz.toList) || e.v.same zeroV) && (e.table.size == 0) && (if e.op.toList == wz.toList then e.v.ok && e.name.size == 0 else if e.op.toList == vS.toList then kR e.name else e.name.size == 0)
structure Qj (n:Int) (e:Expr):Prop where
 np:Yi e=false
 hd:(if e.op.toList == sAt.toList then atB e n else ZX e)=true
theorem zcn {op:ByteArray} (h:(op.toList == wz.toList)=true) (n:Nat):vg op n=(n == 0):=by
 have:jx op X9=true:=List.any_eq_true.2 ⟨_,.head _,h⟩
 unfold vg;rw [this,if_pos rfl]
theorem zaY {e:Expr} (h:Yi e=false):(e.op.toList == Ws.toList)=false ∧ (e.op.toList == ya.toList)=false ∧ ((e.op.toList == vS.toList)=true → jx e.name zkg=false):=by
 unfold Yi at h
 rw [Bool.or_eq_false_iff,Bool.or_eq_false_iff] at h
 refine ⟨h.1.1,h.1.2,fun h3=>?_⟩
 have:=h.2
 rw [h3,Bool.true_and] at this
 exact this
theorem Wq:∀ l:List Expr,xf l=true ↔ ∀ x,x ∈ l → Jw x=true
 | []=>by simp [xf]
 | x :: l=>by rw [xf,Bool.and_eq_true,Wq l];simp
theorem zjh {e:Expr} (h:jx e.name zkg=false):vO e=false:=by
 have:(e.name.toList == za9.toList)=false:=by
  cases hc:(e.name.toList == za9.toList)
  ·rfl
  ·have:jx e.name zkg=true:=List.any_eq_true.2 ⟨_,.head _,hc⟩
   rw [h] at this;cases this
 unfold vO;rw [this];rfl
theorem zfz {e:Expr} {n:Int} (h:atB e n=true):e.l=[]:=by
 unfold atB at h;simp only [Bool.and_eq_true] at h
 exact List.eq_nil_of_length_eq_zero (beq_iff_eq.1 h.2)
theorem Xn {f:Expr → Expr}:∀ {l:List Expr},(∀ x,x ∈ l → wj (f x)=wj x) → jA (l.map f)=jA l
 | [],_=>rfl
 | x :: l,h=>by rw [List.map_cons,jA,jA,h x (by simp),Xn fun y hy=>h y (by simp [hy])]
theorem zbD (op:ByteArray) (v:Val) (t nm:ByteArray) (l:List Expr) (h1:(op.toList == Ws.toList)=false) (h2:(op.toList == ya.toList)=false) (h3:(op.toList == vS.toList)=true → jx nm zkg=false) :
  Jw (.mk op v t nm l)=(ZX (.mk op v t nm l) && ((op.toList == wz.toList) || xf l)):=by
 have e0:Jw (.mk op v t nm l)=if vg op l.length=false then false else if (op.toList == wz.toList)=false ∧ v.same zeroV=false then false else if (op.toList == Ws.toList)=false ∧ (t.size == 0)=false then false
  else if op.toList == wz.toList then v.ok && nm.size == 0 else if op.toList == Ws.toList then kR nm && (t.size == 0 || kR t) else if op.toList == ya.toList then false
  else if op.toList == vS.toList then (if kR nm=false then false else if vO (.mk op v t nm l) then (match l with | x :: _=>eqE x XS | []=>false) else xf l)
  else if (nm.size == 0)=false then false else xf l:=za5 _
 have e1:ZX (.mk op v t nm l)=(vg op l.length && ((op.toList == wz.toList) || v.same zeroV) && (t.size == 0) && (if op.toList == wz.toList then v.ok && nm.size == 0 else if op.toList == vS.toList then kR nm else nm.size == 0)):=rfl
 rw [e0,e1,h1,h2]
 cases pp:vg op l.length
 ·simp
 cases ol:(op.toList == wz.toList)
 ·cases vs:v.same zeroV
  ·simp
  cases ts:(t.size == 0)
  ·simp
  cases oc:(op.toList == vS.toList)
  ·cases ns:(nm.size == 0) <;> simp
  ·have hc:vO (.mk op v t nm l)=false:=zjh (e:=.mk op v t nm l) (h3 oc)
   rw [hc]
   cases nb:kR nm <;> simp
 ·cases ts:(t.size == 0)
  ·simp
  ·simp
theorem Yg (n:Int) (e:Expr):(zG n e).2=true → Jw (zG n e).1=true → Expr.All (Qj n) e ∧ wj (zG n e).1=wj e:=by
 induction e using Expr.ind with
 | h e ih =>
  intro h1 h2
  rw [Zm] at h1 h2 ⊢
  cases hp:Yi e
  case true=>rw [hp,if_pos rfl] at h1;cases h1
  rw [hp,if_neg (by simp)] at h1 h2
  rw [if_neg (by simp)]
  cases ha:(e.op.toList == sAt.toList)
  case true =>
   rw [ha,if_pos rfl] at h1 h2
   rw [if_pos rfl,Expr.vu]
   have hl:=zfz (e:=e) h1
   refine ⟨⟨⟨hp,by rw [ha,if_pos rfl];exact h1⟩,fun x hx=>by rw [hl] at hx;cases hx⟩,?_⟩
   rw [xS,xS e,hl];rfl
  rw [ha,if_neg (by simp)] at h1 h2
  rw [if_neg (by simp)]
  cases hL:(vh n e.l).2
  case false=>rw [hL,if_neg (by simp)] at h1;cases h1
  have hall:∀ x,x ∈ e.l → (zG n x).2=true:=fun x hx=>by
   cases hx2:(zG n x).2
   ·rw [xM n e.l x hx hx2] at hL;cases hL
   ·rfl
  have hok:=xg n e.l hall
  rw [hL,if_pos rfl] at h2
  rw [if_pos rfl]
  rw [hok] at h2 ⊢
  obtain ⟨n1,n2,n3⟩:=zaY hp
  rw [zbD _ _ _ _ _ n1 n2 n3,Bool.and_eq_true] at h2
  obtain ⟨hh,hm⟩:=h2
  have hh':ZX e=true:=by
   have:ZX (.mk e.op e.v e.table e.name (e.l.map fun x=>(zG n x).1))=ZX e:=by
    unfold ZX
    show (vg e.op (e.l.map fun x=>(zG n x).1).length && _ && _ && _)=_
    rw [List.length_map];rfl
   rw [← this];exact hh
  have hkids:∀ x,x ∈ e.l → Expr.All (Qj n) x ∧ wj (zG n x).1=wj x:=fun x hx=>by
   refine ih x hx (hall x hx) ?_
   cases ol:(e.op.toList == wz.toList)
   ·rw [ol,Bool.false_or] at hm
    exact (Wq _).1 hm _ (List.mem_map.2 ⟨x,hx,rfl⟩)
   ·exfalso
    unfold ZX at hh'
    simp only [Bool.and_eq_true] at hh'
    have:=hh'.1.1.1
    rw [zcn ol,beq_iff_eq] at this
    rw [List.eq_nil_of_length_eq_zero this] at hx;cases hx
  rw [Expr.vu]
  refine ⟨⟨⟨hp,by rw [ha,if_neg (by simp)];exact hh'⟩,fun x hx=>(hkids x hx).1⟩,?_⟩
  rw [xS,xS e]
  show jA (e.l.map fun x=>(zG n x).1) + 1=_
  rw [Xn fun x hx=>(hkids x hx).2]
theorem zi4:Jw zee=true:=by
 have h1:kR sA=true:=by
  have hs:(sA:ByteArray)[0]?=some 97:=rfl
  unfold kR
  rw [hs]
  have hr:zka sA=false:=by
   unfold zka zhO
   simp only [Go.ByteArray.toList_eq]
   decide
  have hn:ZJ sA sA.size=true:=by kernel_rfl
  simp only [hr,hn]
  decide
 have e0:=za5 zee
 rw [e0]
 have g1:vg zee.op zee.l.length=true:=by
  have:jx Ws X9=true:=List.any_eq_true.2 ⟨_,.tail _ (.head _),beq_self_eq_true _⟩
  show vg Ws 0=true
  unfold vg;rw [this];rfl
 have g2:(zee.op.toList == wz.toList)=false:=(zF [99,111,108] [108,105,116]).trans rfl
 have g3:(zee.op.toList == Ws.toList)=true:=beq_self_eq_true _
 have g4:zee.v.same zeroV=true:=zg6 _
 have g5:kR zee.name=true:=h1
 have g6:(zee.table.size == 0)=true:=rfl
 rw [g1,g2,g3,g4,g5,g6];rfl
theorem zeg (n:Int) (e:Expr):Expr.All (Qj n) e → (zG n e).2=true ∧ Jw (zG n e).1=true:=by
 induction e using Expr.ind with
 | h e ih =>
  intro h
  rw [Expr.vu] at h
  obtain ⟨⟨hp,hd⟩,hk⟩:=h
  rw [Zm,hp,if_neg (by simp)]
  cases ha:(e.op.toList == sAt.toList)
  case true =>
   rw [ha,if_pos rfl] at hd
   rw [if_pos rfl]
   exact ⟨hd,zi4⟩
  rw [ha,if_neg (by simp)] at hd
  rw [if_neg (by simp)]
  have hall:∀ x,x ∈ e.l → (zG n x).2=true:=fun x hx=>(ih x hx (hk x hx)).1
  have hok:=xg n e.l hall
  rw [hok,if_pos rfl]
  refine ⟨rfl,?_⟩
  obtain ⟨n1,n2,n3⟩:=zaY hp
  show Jw (.mk e.op e.v e.table e.name (e.l.map fun x=>(zG n x).1))=true
  rw [zbD _ _ _ _ _ n1 n2 n3,Bool.and_eq_true]
  constructor
  ·have:ZX (.mk e.op e.v e.table e.name (e.l.map fun x=>(zG n x).1))=ZX e:=by
    unfold ZX
    show (vg e.op (e.l.map fun x=>(zG n x).1).length && _ && _ && _)=_
    rw [List.length_map];rfl
   rw [this];exact hd
  ·rw [Bool.or_eq_true]
   right
   rw [Wq]
   intro x hx
   obtain ⟨y,hy,rfl⟩:=List.mem_map.1 hx
   exact (ih y hy (hk y hy)).2
theorem zgQ (n:Int) (e:Expr):xt n e=0 ↔ Expr.All (Qj n) e ∧ wj e ≤ 40:=by
 constructor
 ·intro h
  unfold xt at h
  cases h1:(zG n e).2
  ·rw [h1] at h;exact absurd h (by simp)
  ·rw [h1,if_pos rfl] at h
   unfold Xm at h
   cases h2:Jw (zG n e).1
   ·rw [h2] at h;exact absurd h (by simp)
   ·rw [h2,if_pos rfl] at h
    obtain ⟨h3,h4⟩:=Yg n e h1 h2
    refine ⟨h3,?_⟩
    rw [h4] at h
    by_cases h5:wj e > 40
    ·rw [if_pos h5] at h;exact absurd h (by simp)
    ·omega
 ·rintro ⟨h1,h2⟩
  obtain ⟨h3,h4⟩:=zeg n e h1
  have h5:=(Yg n e h3 h4).2
  unfold xt Xm
  rw [h3,h4,h5,if_pos rfl,if_pos rfl,if_neg (by omega)]
theorem zh3 {n:Int} {e:Expr} (h:Qj n e):zki e:=fun h1=>by
 have h2:=h.hd
 rw [if_neg (by rw [zb8 h1];simp)] at h2
 unfold ZX at h2
 rw [h1,if_pos rfl] at h2
 simp only [Bool.and_eq_true] at h2
 exact h2.2.1
theorem zhR {n:Nat} {e:Expr} (h:Qj n e):zl2 n e:=fun h1=>by
 have h2:=h.hd
 rw [if_pos h1] at h2
 exact zlm h2
end Go.Ev
end
section
open Go Go.Proofs Go.RowKit
namespace Go.Ev
def VX (w:Nat) (r:List Val):List Val:=r.take w ++ List.replicate (w - r.length) zeroV
def zkQ:List (List Val) → Nat
 | []=>0
 | r :: _=>min r.length 8
def zl5 (l:List (List Val)):List (List Val):=l.map (VX (zkQ l))
theorem zbG (w:Nat) (r:List Val):(VX w r).length=w:=by unfold VX;simp;omega
theorem Q6:∀ l:List Expr,jf l=true ↔ ∀ x,x ∈ l → Zs x=true
 | []=>by simp [jf]
 | x :: l=>by simp [jf,Q6 l]
theorem zcA (e:Expr):Zs e=true → Expr.All (fun x=>x.v.s.size ≤ 100000) e:=by
 induction e using Expr.ind with
 | h e ih =>
  intro h
  rw [Yb] at h
  simp only [Bool.and_eq_true,decide_eq_true_eq] at h
  rw [Expr.vu]
  exact ⟨by have:=h.1.1.1;omega,fun x hx=>ih x hx ((Q6 _).1 h.2 x hx)⟩
theorem zcl (e:Expr):e.nodes ≤ 60 → Expr.All (fun x=>x.l.length ≤ 1000) e:=by
 induction e using Expr.ind with
 | h e ih =>
  intro h
  have hne:=q7 e
  have hll:=ZN e.l
  rw [Expr.vu]
  exact ⟨by omega,fun x hx=>ih x hx (by have:=xX hx;omega)⟩
theorem zhg {l:List (List Val)} {r:List Val} (h:r ∈ l):Qu r ≤ cnt l:=by
 induction l with
 | nil=>cases h
 | cons x l ih =>
  have h7:cnt (x :: l)=1 + Qu x + cnt l:=by simp [cnt]
  rcases List.mem_cons.1 h with rfl | h
  ·omega
  ·have:=ih h;omega
theorem zj4 {r:List Val} {v:Val} (h:v ∈ r):v.s.size ≤ Qu r:=by
 induction r with
 | nil=>cases h
 | cons x l ih =>
  have h7:Qu (x :: l)=1 + x.s.size + Qu l:=by simp [Qu]
  rcases List.mem_cons.1 h with rfl | h
  ·omega
  ·have:=ih h;omega
theorem zks {w:Nat} {r:List Val} {v:Val} (h:v ∈ VX w r):v ∈ r ∨ v=zeroV:=by
 unfold VX at h
 rcases List.mem_append.1 h with h | h
 ·exact .inl (List.mem_of_mem_take h)
 ·exact .inr (List.eq_of_mem_replicate h)
structure zmS (l:List (List Val)) (ks:List Key):Prop where
 len:(zl5 l).length ≤ 60
 keys:ks.length ≤ 5
 rows:∀ r,r ∈ zl5 l → r.length=zkQ l ∧ ∀ v,v ∈ r → I64 v.i ∧ v.s.size ≤ 100000
 key:∀ k,k ∈ ks → wtE k.e ≤ 9000000 ∧ Expr.All (fun y=>I64 y.v.i ∧ y.l.length ≤ 1000) k.e ∧ xt (zkQ l) k.e=0
end Go.Ev
end
