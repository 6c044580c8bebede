import Derived.Test.YtifdakibkadfiaaGreatDoorMe6
import Derived.Test.YtifdakibkadfiaaGreatDoorMr3
import Derived.Test.YtifdakibkadfiaaGreatDoorMs7
import Derived.Test.YtifdakibkadfiaaGreatDoorMr1
set_option linter.all false
set_option maxRecDepth 100000
set_option maxHeartbeats 8000000
section
open Go Go.Proofs Go.RowKit
namespace Go.Ev
theorem atB_at {e:Expr} {n:Int} (h:atB e n=true):0 ≤ e.v.i ∧ e.v.i < n:=by
 unfold atB at h;simp only [Bool.and_eq_true,decide_eq_true_eq] at h
 exact ⟨h.1.1.1.1.2,h.1.1.1.2⟩
theorem wt_nodes (e:Expr):Expr.All (fun x=>x.v.s.size ≤ 100000) e → wtE e ≤ 100000 * e.nodes:=by
 induction e using Expr.ind with
 | h e ih =>
  intro h
  rw [Expr.All_iff] at h
  rw [wtE_eq,nodes_eq]
  have hL:wtL e.l ≤ 100000 * Expr.nodesL e.l:=by
   have key:∀ l:List Expr,(∀ x,x ∈ l → wtE x ≤ 100000 * x.nodes) → wtL l ≤ 100000 * Expr.nodesL l:=fun l=>by
    induction l with
    | nil=>intro _;exact Nat.zero_le _
    | cons x l ihl =>
     intro hx
     rw [wtL,Expr.nodesL]
     have h1:=hx x (by simp)
     have h2:=ihl fun y hy=>hx y (by simp [hy])
     omega
   exact key e.l fun x hx=>ih x hx (h.2 x hx)
  have:=h.1
  split
  ·omega
  ·split <;> omega
def headB (e:Expr):Bool:=partsB e.op e.l.length && ((e.op.toList == sLit.toList) || e.v.same zeroV) && (e.table.size == 0) && (if e.op.toList == sLit.toList then e.v.ok && e.name.size == 0 else if e.op.toList == sCall.toList then nameB e.name else e.name.size == 0)
structure NodeOK (n:Int) (e:Expr):Prop where
 np:notP e=false
 hd:(if e.op.toList == sAt.toList then atB e n else headB e)=true
theorem partsB_lit {op:ByteArray} (h:(op.toList == sLit.toList)=true) (n:Nat):partsB op n=(n == 0):=by
 have:inB7 op zeroL=true:=List.any_eq_true.2 ⟨_,.head _,h⟩
 unfold partsB;rw [this,if_pos rfl]
theorem notP_no {e:Expr} (h:notP e=false):(e.op.toList == sCol.toList)=false ∧ (e.op.toList == sStar.toList)=false ∧ ((e.op.toList == sCall.toList)=true → inB7 e.name aggL=false):=by
 unfold notP at h
 rw [Bool.or_eq_false_iff,Bool.or_eq_false_iff] at h
 refine ⟨h.1.1,h.1.2,fun h3=>?_⟩
 have:=h.2
 rw [h3,Bool.true_and] at this
 exact this
theorem mayL_iff:∀ l:List Expr,mayL l=true ↔ ∀ x,x ∈ l → mayE x=true
 | []=>by simp [mayL]
 | x :: l=>by rw [mayL,Bool.and_eq_true,mayL_iff l];simp
theorem count_no {e:Expr} (h:inB7 e.name aggL=false):countE e=false:=by
 have:(e.name.toList == sCount.toList)=false:=by
  cases hc:(e.name.toList == sCount.toList)
  ·rfl
  ·have:inB7 e.name aggL=true:=List.any_eq_true.2 ⟨_,.head _,hc⟩
   rw [h] at this;cases this
 unfold countE;rw [this];rfl
theorem atB_len {e:Expr} {n:Int} (h:atB e n=true):e.l=[]:=by
 unfold atB at h;simp only [Bool.and_eq_true] at h
 exact List.eq_nil_of_length_eq_zero (beq_iff_eq.1 h.2)
theorem deepL_map {f:Expr → Expr}:∀ {l:List Expr},(∀ x,x ∈ l → deepE (f x)=deepE x) → deepL (l.map f)=deepL l
 | [],_=>rfl
 | x :: l,h=>by rw [List.map_cons,deepL,deepL,h x (by simp),deepL_map fun y hy=>h y (by simp [hy])]
theorem may_head (op:ByteArray) (v:Val) (t nm:ByteArray) (l:List Expr) (h1:(op.toList == sCol.toList)=false) (h2:(op.toList == sStar.toList)=false) (h3:(op.toList == sCall.toList)=true → inB7 nm aggL=false) :
  mayE (.mk op v t nm l)=(headB (.mk op v t nm l) && ((op.toList == sLit.toList) || mayL l)):=by
 have e0:mayE (.mk op v t nm l)=if partsB op l.length=false then false else if (op.toList == sLit.toList)=false ∧ v.same zeroV=false then false else if (op.toList == sCol.toList)=false ∧ (t.size == 0)=false then false
  else if op.toList == sLit.toList then v.ok && nm.size == 0 else if op.toList == sCol.toList then nameB nm && (t.size == 0 || nameB t) else if op.toList == sStar.toList then false
  else if op.toList == sCall.toList then (if nameB nm=false then false else if countE (.mk op v t nm l) then (match l with | x :: _=>eqE x starE | []=>false) else mayL l)
  else if (nm.size == 0)=false then false else mayL l:=mayE_eq _
 have e1:headB (.mk op v t nm l)=(partsB op l.length && ((op.toList == sLit.toList) || v.same zeroV) && (t.size == 0) && (if op.toList == sLit.toList then v.ok && nm.size == 0 else if op.toList == sCall.toList then nameB nm else nm.size == 0)):=rfl
 rw [e0,e1,h1,h2]
 cases pp:partsB op l.length
 ·simp
 cases ol:(op.toList == sLit.toList)
 ·cases vs:v.same zeroV
  ·simp
  cases ts:(t.size == 0)
  ·simp
  cases oc:(op.toList == sCall.toList)
  ·cases ns:(nm.size == 0) <;> simp
  ·have hc:countE (.mk op v t nm l)=false:=count_no (e:=.mk op v t nm l) (h3 oc)
   rw [hc]
   cases nb:nameB nm <;> simp
 ·cases ts:(t.size == 0)
  ·simp
  ·simp
theorem valid_all (n:Int) (e:Expr):(namedE n e).2=true → mayE (namedE n e).1=true → Expr.All (NodeOK n) e ∧ deepE (namedE n e).1=deepE e:=by
 induction e using Expr.ind with
 | h e ih =>
  intro h1 h2
  rw [namedE_eq] at h1 h2 ⊢
  cases hp:notP e
  case true=>rw [hp,if_pos rfl] at h1;cases h1
  rw [hp,if_neg (by simp)] at h1 h2
  rw [if_neg (by simp)]
  cases ha:(e.op.toList == sAt.toList)
  case true =>
   rw [ha,if_pos rfl] at h1 h2
   rw [if_pos rfl,Expr.All_iff]
   have hl:=atB_len (e:=e) h1
   refine ⟨⟨⟨hp,by rw [ha,if_pos rfl];exact h1⟩,fun x hx=>by rw [hl] at hx;cases hx⟩,?_⟩
   rw [deepE_eq,deepE_eq e,hl];rfl
  rw [ha,if_neg (by simp)] at h1 h2
  rw [if_neg (by simp)]
  cases hL:(namedL n e.l).2
  case false=>rw [hL,if_neg (by simp)] at h1;cases h1
  have hall:∀ x,x ∈ e.l → (namedE n x).2=true:=fun x hx=>by
   cases hx2:(namedE n x).2
   ·rw [namedL_bad n e.l x hx hx2] at hL;cases hL
   ·rfl
  have hok:=namedL_ok n e.l hall
  rw [hL,if_pos rfl] at h2
  rw [if_pos rfl]
  rw [hok] at h2 ⊢
  obtain ⟨n1,n2,n3⟩:=notP_no hp
  rw [may_head _ _ _ _ _ n1 n2 n3,Bool.and_eq_true] at h2
  obtain ⟨hh,hm⟩:=h2
  have hh':headB e=true:=by
   have:headB (.mk e.op e.v e.table e.name (e.l.map fun x=>(namedE n x).1))=headB e:=by
    unfold headB
    show (partsB e.op (e.l.map fun x=>(namedE n x).1).length && _ && _ && _)=_
    rw [List.length_map];rfl
   rw [← this];exact hh
  have hkids:∀ x,x ∈ e.l → Expr.All (NodeOK n) x ∧ deepE (namedE n x).1=deepE x:=fun x hx=>by
   refine ih x hx (hall x hx) ?_
   cases ol:(e.op.toList == sLit.toList)
   ·rw [ol,Bool.false_or] at hm
    exact (mayL_iff _).1 hm _ (List.mem_map.2 ⟨x,hx,rfl⟩)
   ·exfalso
    unfold headB at hh'
    simp only [Bool.and_eq_true] at hh'
    have:=hh'.1.1.1
    rw [partsB_lit ol,beq_iff_eq] at this
    rw [List.eq_nil_of_length_eq_zero this] at hx;cases hx
  rw [Expr.All_iff]
  refine ⟨⟨⟨hp,by rw [ha,if_neg (by simp)];exact hh'⟩,fun x hx=>(hkids x hx).1⟩,?_⟩
  rw [deepE_eq,deepE_eq e]
  show deepL (e.l.map fun x=>(namedE n x).1) + 1=_
  rw [deepL_map fun x hx=>(hkids x hx).2]
theorem may_colA:mayE colA=true:=by
 have h1:nameB sA=true:=by
  have hs:(sA:ByteArray)[0]?=some 97:=rfl
  unfold nameB
  rw [hs]
  have hr:resB sA=false:=by
   unfold resB resL
   simp only [Go.ByteArray.toList_eq]
   decide
  have hn:namesTo sA sA.size=true:=by kernel_rfl
  simp only [hr,hn]
  decide
 have e0:=mayE_eq colA
 rw [e0]
 have g1:partsB colA.op colA.l.length=true:=by
  have:inB7 sCol zeroL=true:=List.any_eq_true.2 ⟨_,.tail _ (.head _),beq_self_eq_true _⟩
  show partsB sCol 0=true
  unfold partsB;rw [this];rfl
 have g2:(colA.op.toList == sLit.toList)=false:=(bs_eq [99,111,108] [108,105,116]).trans rfl
 have g3:(colA.op.toList == sCol.toList)=true:=beq_self_eq_true _
 have g4:colA.v.same zeroV=true:=same_self _
 have g5:nameB colA.name=true:=h1
 have g6:(colA.table.size == 0)=true:=rfl
 rw [g1,g2,g3,g4,g5,g6];rfl
theorem all_valid (n:Int) (e:Expr):Expr.All (NodeOK n) e → (namedE n e).2=true ∧ mayE (namedE n e).1=true:=by
 induction e using Expr.ind with
 | h e ih =>
  intro h
  rw [Expr.All_iff] at h
  obtain ⟨⟨hp,hd⟩,hk⟩:=h
  rw [namedE_eq,hp,if_neg (by simp)]
  cases ha:(e.op.toList == sAt.toList)
  case true =>
   rw [ha,if_pos rfl] at hd
   rw [if_pos rfl]
   exact ⟨hd,may_colA⟩
  rw [ha,if_neg (by simp)] at hd
  rw [if_neg (by simp)]
  have hall:∀ x,x ∈ e.l → (namedE n x).2=true:=fun x hx=>(ih x hx (hk x hx)).1
  have hok:=namedL_ok n e.l hall
  rw [hok,if_pos rfl]
  refine ⟨rfl,?_⟩
  obtain ⟨n1,n2,n3⟩:=notP_no hp
  show mayE (.mk e.op e.v e.table e.name (e.l.map fun x=>(namedE n x).1))=true
  rw [may_head _ _ _ _ _ n1 n2 n3,Bool.and_eq_true]
  constructor
  ·have:headB (.mk e.op e.v e.table e.name (e.l.map fun x=>(namedE n x).1))=headB e:=by
    unfold headB
    show (partsB e.op (e.l.map fun x=>(namedE n x).1).length && _ && _ && _)=_
    rw [List.length_map];rfl
   rw [this];exact hd
  ·rw [Bool.or_eq_true]
   right
   rw [mayL_iff]
   intro x hx
   obtain ⟨y,hy,rfl⟩:=List.mem_map.1 hx
   exact (ih y hy (hk y hy)).2
theorem checkN_ok (n:Int) (e:Expr):checkN n e=0 ↔ Expr.All (NodeOK n) e ∧ deepE e ≤ 40:=by
 constructor
 ·intro h
  unfold checkN at h
  cases h1:(namedE n e).2
  ·rw [h1] at h;exact absurd h (by simp)
  ·rw [h1,if_pos rfl] at h
   unfold checkE at h
   cases h2:mayE (namedE n e).1
   ·rw [h2] at h;exact absurd h (by simp)
   ·rw [h2,if_pos rfl] at h
    obtain ⟨h3,h4⟩:=valid_all n e h1 h2
    refine ⟨h3,?_⟩
    rw [h4] at h
    by_cases h5:deepE e > 40
    ·rw [if_pos h5] at h;exact absurd h (by simp)
    ·omega
 ·rintro ⟨h1,h2⟩
  obtain ⟨h3,h4⟩:=all_valid n e h1
  have h5:=(valid_all n e h3 h4).2
  unfold checkN checkE
  rw [h3,h4,h5,if_pos rfl,if_pos rfl,if_neg (by omega)]
theorem ok_litok {n:Int} {e:Expr} (h:NodeOK n e):LitOK e:=fun h1=>by
 have h2:=h.hd
 rw [if_neg (by rw [lit_not_at h1];simp)] at h2
 unfold headB at h2
 rw [h1,if_pos rfl] at h2
 simp only [Bool.and_eq_true] at h2
 exact h2.2.1
theorem ok_inrow {n:Nat} {e:Expr} (h:NodeOK n e):InRow n e:=fun h1=>by
 have h2:=h.hd
 rw [if_pos h1] at h2
 exact atB_at h2
end Go.Ev
end
section
open Go Go.Proofs Go.RowKit
namespace Go.Ev
def fitR (w:Nat) (r:List Val):List Val:=r.take w ++ List.replicate (w - r.length) zeroV
def wideF:List (List Val) → Nat
 | []=>0
 | r :: _=>min r.length 8
def evenF (l:List (List Val)):List (List Val):=l.map (fitR (wideF l))
theorem fitR_len (w:Nat) (r:List Val):(fitR w r).length=w:=by unfold fitR;simp;omega
theorem lightL_iff6:∀ l:List Expr,lightL l=true ↔ ∀ x,x ∈ l → lightE x=true
 | []=>by simp [lightL]
 | x :: l=>by simp [lightL,lightL_iff6 l]
theorem light_all6 (e:Expr):lightE e=true → Expr.All (fun x=>x.v.s.size ≤ 100000) e:=by
 induction e using Expr.ind with
 | h e ih =>
  intro h
  rw [lightE_eq] at h
  simp only [Bool.and_eq_true,decide_eq_true_eq] at h
  rw [Expr.All_iff]
  exact ⟨by have:=h.1.1.1;omega,fun x hx=>ih x hx ((lightL_iff6 _).1 h.2 x hx)⟩
theorem nodes_len6 (e:Expr):e.nodes ≤ 60 → Expr.All (fun x=>x.l.length ≤ 1000) e:=by
 induction e using Expr.ind with
 | h e ih =>
  intro h
  have hne:=nodes_eq e
  have hll:=nodesL_len e.l
  rw [Expr.All_iff]
  exact ⟨by omega,fun x hx=>ih x hx (by have:=nodesL_mem hx;omega)⟩
theorem cnt_row {l:List (List Val)} {r:List Val} (h:r ∈ l):cntR r ≤ cnt l:=by
 induction l with
 | nil=>cases h
 | cons x l ih =>
  have h7:cnt (x :: l)=1 + cntR x + cnt l:=by simp [cnt]
  rcases List.mem_cons.1 h with rfl | h
  ·omega
  ·have:=ih h;omega
theorem cnt_val {r:List Val} {v:Val} (h:v ∈ r):v.s.size ≤ cntR r:=by
 induction r with
 | nil=>cases h
 | cons x l ih =>
  have h7:cntR (x :: l)=1 + x.s.size + cntR l:=by simp [cntR]
  rcases List.mem_cons.1 h with rfl | h
  ·omega
  ·have:=ih h;omega
theorem fit_mem {w:Nat} {r:List Val} {v:Val} (h:v ∈ fitR w r):v ∈ r ∨ v=zeroV:=by
 unfold fitR at h
 rcases List.mem_append.1 h with h | h
 ·exact .inl (List.mem_of_mem_take h)
 ·exact .inr (List.eq_of_mem_replicate h)
structure EvenOK (l:List (List Val)) (ks:List Key):Prop where
 len:(evenF l).length ≤ 60
 keys:ks.length ≤ 5
 rows:∀ r,r ∈ evenF l → r.length=wideF l ∧ ∀ v,v ∈ r → I64 v.i ∧ v.s.size ≤ 100000
 key:∀ k,k ∈ ks → wtE k.e ≤ 9000000 ∧ Expr.All (fun y=>I64 y.v.i ∧ y.l.length ≤ 1000) k.e ∧ checkN (wideF l) k.e=0
end Go.Ev
end
