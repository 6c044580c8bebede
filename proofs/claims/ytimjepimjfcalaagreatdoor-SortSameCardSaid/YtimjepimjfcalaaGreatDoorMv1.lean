import Derived.Test.YtimjepimjfcalaaGreatDoorMe6
import Derived.Test.YtimjepimjfcalaaGreatDoorMr3
import Derived.Test.YtimjepimjfcalaaGreatDoorMs7
import Derived.Test.YtimjepimjfcalaaGreatDoorMr1
set_option linter.all false
set_option maxRecDepth 100000
set_option maxHeartbeats 8000000
section
open Go Go.Proofs Go.RowKit
namespace Go.Ev
theorem atB_at {e:Expr} {n:Int} (h:atB e n=true):0 ≤ e.v.i ∧ e.v.i < n:=by
 unfold atB at h;simp only [Bool.and_eq_true,decide_eq_true_eq] at h
 exact ⟨h.1.1.1.1.2,h.1.1.1.2⟩
theorem wt_nodes (e:Expr):Expr.All (fun x=>x.v.s.size ≤ 100000) e → wtE e ≤ 100000 * e.nodes:=by
 induction e using Expr.ind with
 | h e ih =>
  intro h
  rw [Expr.All_iff] at h
  rw [wtE_eq,nodes_eq]
  have hL:wtL e.l ≤ 100000 * Expr.nodesL e.l:=by
   have key:∀ l:List Expr,(∀ x,x ∈ l → wtE x ≤ 100000 * x.nodes) → wtL l ≤ 100000 * Expr.nodesL l:=fun l=>by
    induction l with
    | nil=>intro _;exact Nat.zero_le _
    | cons x l ihl =>
     intro hx
     rw [wtL,Expr.nodesL]
     have h1:=hx x (by simp)
     have h2:=ihl fun y hy=>hx y (by simp [hy])
     omega
   exact key e.l fun x hx=>ih x hx (h.2 x hx)
  have:=h.1
  split
  ·omega
  ·split <;> omega
def headB (e:Expr):Bool:=partsB e.op e.l.length && ((e.op.toList == sLit.toList) || e.v.same zeroV) && (e.table.size == 0) && (if e.op.toList == sLit.toList then e.v.ok && e.name.size == 0 else if e.op.toList == sCall.toList then nameB e.name else e.name.size == 0)
structure NodeOK (n:Int) (e:Expr):Prop where
 np:notP e=false
 hd:(if e.op.toList == sAt.toList then atB e n else headB e)=true
theorem partsB_lit {op:ByteArray} (h:(op.toList == sLit.toList)=true) (n:Nat):partsB op n=(n == 0):=by
 have:inB7 op zeroL=true:=List.any_eq_true.2 ⟨_,.head _,h⟩
 unfold partsB;rw [this,if_pos rfl]
theorem notP_no {e:Expr} (h:notP e=false):(e.op.toList == sCol.toList)=false ∧ (e.op.toList == sStar.toList)=false ∧ ((e.op.toList == sCall.toList)=true → inB7 e.name aggL=false):=by
 unfold notP at h
 rw [Bool.or_eq_false_iff,Bool.or_eq_false_iff] at h
 refine ⟨h.1.1,h.1.2,fun h3=>?_⟩
 have:=h.2
 rw [h3,Bool.true_and] at this
 exact this
theorem mayL_iff:∀ l:List Expr,mayL l=true ↔ ∀ x,x ∈ l → mayE x=true
 | []=>by simp [mayL]
 | x :: l=>by rw [mayL,Bool.and_eq_true,mayL_iff l];simp
theorem count_no {e:Expr} (h:inB7 e.name aggL=false):countE e=false:=by
 have:(e.name.toList == sCount.toList)=false:=by
  cases hc:(e.name.toList == sCount.toList)
  ·rfl
  ·have:inB7 e.name aggL=true:=List.any_eq_true.2 ⟨_,.head _,hc⟩
   rw [h] at this;cases this
 unfold countE;rw [this];rfl
theorem atB_len {e:Expr} {n:Int} (h:atB e n=true):e.l=[]:=by
 unfold atB at h;simp only [Bool.and_eq_true] at h
 exact List.eq_nil_of_length_eq_zero (beq_iff_eq.1 h.2)
theorem deepL_map {f:Expr → Expr}:∀ {l:List Expr},(∀ x,x ∈ l → deepE (f x)=deepE x) → deepL (l.map f)=deepL l
 | [],_=>rfl
 | x :: l,h=>by rw [List.map_cons,deepL,deepL,h x (by simp),deepL_map fun y hy=>h y (by simp [hy])]
theorem may_head (op:ByteArray) (v:Val) (t nm:ByteArray) (l:List Expr) (h1:(op.toList == sCol.toList)=false) (h2:(op.toList == sStar.toList)=false) (h3:(op.toList == sCall.toList)=true → inB7 nm aggL=false) :
  mayE (.mk op v t nm l)=(headB (.mk op v t nm l) && ((op.toList == sLit.toList) || mayL l)):=by
 have e0:mayE (.mk op v t nm l)=if partsB op l.length=false then false else if (op.toList == sLit.toList)=false ∧ v.same zeroV=false then false else if (op.toList == sCol.toList)=false ∧ (t.size == 0)=false then false
  else if op.toList == sLit.toList then v.ok && nm.size == 0 else if op.toList == sCol.toList then nameB nm && (t.size == 0 || nameB t) else if op.toList == sStar.toList then false
  else if op.toList == sCall.toList then (if nameB nm=false then false else if countE (.mk op v t nm l) then (match l with | x :: _=>eqE x starE | []=>false) else mayL l)
  else if (nm.size == 0)=false then false else mayL l:=mayE_eq _
 have e1:headB (.mk op v t nm l)=(partsB op l.length && ((op.toList == sLit.toList) || v.same zeroV) && (t.size == 0) && (if op.toList == sLit.toList then v.ok && nm.size == 0 else if op.toList == sCall.toList then nameB nm else nm.size == 0)):=rfl
 rw [e0,e1,h1,h2]
 cases pp:partsB op l.length
 ·simp
 cases ol:(op.toList == sLit.toList)
 ·cases vs:v.same zeroV
  ·simp
  cases ts:(t.size == 0)
  ·simp
  cases oc:(op.toList == sCall.toList)
  ·cases ns:(nm.size == 0) <;> simp
  ·have hc:countE (.mk op v t nm l)=false:=count_no (e:=.mk op v t nm l) (h3 oc)
   rw [hc]
   cases nb:nameB nm <;> simp
 ·cases ts:(t.size == 0)
  ·simp
  ·simp
theorem valid_all (n:Int) (e:Expr):(namedE n e).2=true → mayE (namedE n e).1=true → Expr.All (NodeOK n) e ∧ deepE (namedE n e).1=deepE e:=by
 induction e using Expr.ind with
 | h e ih =>
  intro h1 h2
  rw [namedE_eq] at h1 h2 ⊢
  cases hp:notP e
  case true=>rw [hp,if_pos rfl] at h1;cases h1
  rw [hp,if_neg (by simp)] at h1 h2
  rw [if_neg (by simp)]
  cases ha:(e.op.toList == sAt.toList)
  case true =>
   rw [ha,if_pos rfl] at h1 h2
   rw [if_pos rfl,Expr.All_iff]
   have hl:=atB_len (e:=e) h1
   refine ⟨⟨⟨hp,by rw [ha,if_pos rfl];exact h1⟩,fun x hx=>by rw [hl] at hx;cases hx⟩,?_⟩
   rw [deepE_eq,deepE_eq e,hl];rfl
  rw [ha,if_neg (by simp)] at h1 h2
  rw [if_neg (by simp)]
  cases hL:(namedL n e.l).2
  case false=>rw [hL,if_neg (by simp)] at h1;cases h1
  have hall:∀ x,x ∈ e.l → (namedE n x).2=true:=fun x hx=>by
   cases hx2:(namedE n x).2
   ·rw [namedL_bad n e.l x hx hx2] at hL;cases hL
   ·rfl
  have hok:=namedL_ok n e.l hall
  rw [hL,if_pos rfl] at h2
  rw [if_pos rfl]
  rw [hok] at h2 ⊢
  obtain ⟨n1,n2,n3⟩:=notP_no hp
  rw [may_head _ _ _ _ _ n1 n2 n3,Bool.and_eq_true] at h2
  obtain ⟨hh,hm⟩:=h2
  have hh':headB e=true:=by
   have:headB (.mk e.op e.v e.table e.name (e.l.map fun x=>(namedE n x).1))=headB e:=by
    unfold headB
    show (partsB e.op (e.l.map fun x=>(namedE n x).1).length && _ && _ && _)=_
    rw [List.length_map];rfl
   rw [← this];exact hh
  have hkids:∀ x,x ∈ e.l → Expr.All (NodeOK n) x ∧ deepE (namedE n x).1=deepE x:=fun x hx=>by
   refine ih x hx (hall x hx) ?_
   cases ol:(e.op.toList == sLit.toList)
   ·rw [ol,Bool.false_or] at hm
    exact (mayL_iff _).1 hm _ (List.mem_map.2 ⟨x,hx,rfl⟩)
   ·exfalso
    unfold headB at hh'
    simp only [Bool.and_eq_true] at hh'
    have:=hh'.1.1.1
    rw [partsB_lit ol,beq_iff_eq] at this
    rw [List.eq_nil_of_length_eq_zero this] at hx;cases hx
  rw [Expr.All_iff]
  refine ⟨⟨⟨hp,by rw [ha,if_neg (by simp)];exact hh'⟩,fun x hx=>(hkids x hx).1⟩,?_⟩
  rw [deepE_eq,deepE_eq e]
  show deepL (e.l.map fun x=>(namedE n x).1) + 1=_
  rw [deepL_map fun x hx=>(hkids x hx).2]
theorem may_colA:mayE colA=true:=by
 have h1:nameB sA=true:=by
  have hs:(sA:ByteArray)[0]?=some 97:=rfl
  unfold nameB
  rw [hs]
  have hr:resB sA=false:=by
   unfold resB resL
   simp only [Go.ByteArray.toList_eq]
   decide
  have hn:namesTo sA sA.size=true:=by kernel_rfl
  simp only [hr,hn]
  decide
 have e0:=mayE_eq colA
 rw [e0]
 have g1:partsB colA.op colA.l.length=true:=by
  have:inB7 sCol zeroL=true:=List.any_eq_true.2 ⟨_,.tail _ (.head _),beq_self_eq_true _⟩
  show partsB sCol 0=true
  unfold partsB;rw [this];rfl
 have g2:(colA.op.toList == sLit.toList)=false:=(bs_eq [99,111,108] [108,105,116]).trans rfl
 have g3:(colA.op.toList == sCol.toList)=true:=beq_self_eq_true _
 have g4:colA.v.same zeroV=true:=same_self _
 have g5:nameB colA.name=true:=h1
 have g6:(colA.table.size == 0)=true:=rfl
 rw [g1,g2,g3,g4,g5,g6];rfl
theorem all_valid (n:Int) (e:Expr):Expr.All (NodeOK n) e → (namedE n e).2=true ∧ mayE (namedE n e).1=true:=by
 induction e using Expr.ind with
 | h e ih =>
  intro h
  rw [Expr.All_iff] at h
  obtain ⟨⟨hp,hd⟩,hk⟩:=h
  rw [namedE_eq,hp,if_neg (by simp)]
  cases ha:(e.op.toList == sAt.toList)
  case true =>
   rw [ha,if_pos rfl] at hd
   rw [if_pos rfl]
   exact ⟨hd,may_colA⟩
  rw [ha,if_neg (by simp)] at hd
  rw [if_neg (by simp)]
  have hall:∀ x,x ∈ e.l → (namedE n x).2=true:=fun x hx=>(ih x hx (hk x hx)).1
  have hok:=namedL_ok n e.l hall
  rw [hok,if_pos rfl]
  refine ⟨rfl,?_⟩
  obtain ⟨n1,n2,n3⟩:=notP_no hp
  show mayE (.mk e.op e.v e.table e.name (e.l.map fun x=>(namedE n x).1))=true
  rw [may_head _ _ _ _ _ n1 n2 n3,Bool.and_eq_true]
  constructor
  ·have:headB (.mk e.op e.v e.table e.name (e.l.map fun x=>(namedE n x).1))=headB e:=by
    unfold headB
    show (partsB e.op (e.l.map fun x=>(namedE n x).1).length && _ && _ && _)=_
    rw [List.length_map];rfl
   rw [this];exact hd
  ·rw [Bool.or_eq_true]
   right
   rw [mayL_iff]
   intro x hx
   obtain ⟨y,hy,rfl⟩:=List.mem_map.1 hx
   exact (ih y hy (hk y hy)).2
theorem checkN_ok (n:Int) (e:Expr):checkN n e=0 ↔ Expr.All (NodeOK n) e ∧ deepE e ≤ 40:=by
 constructor
 ·intro h
  unfold checkN at h
  cases h1:(namedE n e).2
  ·rw [h1] at h;exact absurd h (by simp)
  ·rw [h1,if_pos rfl] at h
   unfold checkE at h
   cases h2:mayE (namedE n e).1
   ·rw [h2] at h;exact absurd h (by simp)
   ·rw [h2,if_pos rfl] at h
    obtain ⟨h3,h4⟩:=valid_all n e h1 h2
    refine ⟨h3,?_⟩
    rw [h4] at h
    by_cases h5:deepE e > 40
    ·rw [if_pos h5] at h;exact absurd h (by simp)
    ·omega
 ·rintro ⟨h1,h2⟩
  obtain ⟨h3,h4⟩:=all_valid n e h1
  have h5:=(valid_all n e h3 h4).2
  unfold checkN checkE
  rw [h3,h4,h5,if_pos rfl,if_pos rfl,if_neg (by omega)]
theorem ok_inrow {n:Nat} {e:Expr} (h:NodeOK n e):InRow n e:=fun h1=>by
 have h2:=h.hd
 rw [if_pos h1] at h2
 exact atB_at h2
end Go.Ev
end
section
open Go Go.Proofs Go.RowKit
namespace Go.Ev
def fitR (w:Nat) (r:List Val):List Val:=r.take w ++ List.replicate (w - r.length) zeroV
def wideF:List (List Val) → Nat
 | []=>0
 | r :: _=>min r.length 8
def okKey (w:Nat) (k:Key):Bool:=decide (0 ≤ leftE k.e 30) && lightE k.e && (checkN w k.e == 0)
def evenB (l:List (List Val)) (ks:List Key):Bool:=decide (l.length ≤ 60) && decide (cnt l ≤ 1500) && decide (ks.length ≤ 5) && l.all (fun r=>checkRowS r == 0) && ks.all (okKey (wideF l))
def evenF (l:List (List Val)):List (List Val):=l.map (fitR (wideF l))
theorem wide_le (l:List (List Val)):wideF l ≤ 8:=by
 cases l with
 | nil=>exact Nat.zero_le _
 | cons r l=>exact Nat.min_le_right ..
theorem fitR_len (w:Nat) (r:List Val):(fitR w r).length=w:=by unfold fitR;simp;omega
theorem lightL_iff6:∀ l:List Expr,lightL l=true ↔ ∀ x,x ∈ l → lightE x=true
 | []=>by simp [lightL]
 | x :: l=>by simp [lightL,lightL_iff6 l]
theorem light_all6 (e:Expr):lightE e=true → Expr.All (fun x=>x.v.s.size ≤ 100000) e:=by
 induction e using Expr.ind with
 | h e ih =>
  intro h
  rw [lightE_eq] at h
  simp only [Bool.and_eq_true,decide_eq_true_eq] at h
  rw [Expr.All_iff]
  exact ⟨by have:=h.1.1.1;omega,fun x hx=>ih x hx ((lightL_iff6 _).1 h.2 x hx)⟩
theorem nodes_len6 (e:Expr):e.nodes ≤ 60 → Expr.All (fun x=>x.l.length ≤ 1000) e:=by
 induction e using Expr.ind with
 | h e ih =>
  intro h
  have hne:=nodes_eq e
  have hll:=nodesL_len e.l
  rw [Expr.All_iff]
  exact ⟨by omega,fun x hx=>ih x hx (by have:=nodesL_mem hx;omega)⟩
theorem cnt_row {l:List (List Val)} {r:List Val} (h:r ∈ l):cntR r ≤ cnt l:=by
 induction l with
 | nil=>cases h
 | cons x l ih =>
  have h7:cnt (x :: l)=1 + cntR x + cnt l:=by simp [cnt]
  rcases List.mem_cons.1 h with rfl | h
  ·omega
  ·have:=ih h;omega
theorem cnt_val {r:List Val} {v:Val} (h:v ∈ r):v.s.size ≤ cntR r:=by
 induction r with
 | nil=>cases h
 | cons x l ih =>
  have h7:cntR (x :: l)=1 + x.s.size + cntR l:=by simp [cntR]
  rcases List.mem_cons.1 h with rfl | h
  ·omega
  ·have:=ih h;omega
theorem fit_mem {w:Nat} {r:List Val} {v:Val} (h:v ∈ fitR w r):v ∈ r ∨ v=zeroV:=by
 unfold fitR at h
 rcases List.mem_append.1 h with h | h
 ·exact .inl (List.mem_of_mem_take h)
 ·exact .inr (List.eq_of_mem_replicate h)
structure EvenOK (l:List (List Val)) (ks:List Key):Prop where
 len:(evenF l).length ≤ 60
 keys:ks.length ≤ 5
 rows:∀ r,r ∈ evenF l → r.length=wideF l ∧ ∀ v,v ∈ r → I64 v.i ∧ v.s.size ≤ 100000
 key:∀ k,k ∈ ks → wtE k.e ≤ 9000000 ∧ Expr.All (fun y=>I64 y.v.i ∧ y.l.length ≤ 1000) k.e ∧ checkN (wideF l) k.e=0
theorem even_ok {l:List (List Val)} {ks:List Key} (h:evenB l ks=true) (hl:∀ r,r ∈ l → ∀ v,v ∈ r → I64 v.i) (hk:∀ k,k ∈ ks → Expr.All (fun x=>I64 x.v.i) k.e):EvenOK l ks:=by
 unfold evenB at h
 simp only [Bool.and_eq_true,decide_eq_true_eq,List.all_eq_true] at h
 obtain ⟨⟨⟨⟨h1,h2⟩,h3⟩,h4⟩,h5⟩:=h
 refine ⟨by unfold evenF;rw [List.length_map];exact h1,h3,fun r hr=>?_,fun k hkm=>?_⟩
 ·obtain ⟨y,hy,rfl⟩:=List.mem_map.1 hr
  refine ⟨fitR_len _ _,fun v hv=>?_⟩
  rcases fit_mem hv with hv | rfl
  ·refine ⟨hl y hy v hv,?_⟩
   have:=cnt_row hy
   have:=cnt_val hv
   omega
  ·exact ⟨by unfold I64 zeroV;simp,Nat.zero_le _⟩
 ·have h6:=h5 k hkm
  unfold okKey at h6
  simp only [Bool.and_eq_true,decide_eq_true_eq,beq_iff_eq] at h6
  have hn:=left_nodes k.e 30 h6.1.1
  have h7:=light_all6 _ h6.1.2
  have h8:=wt_nodes _ h7
  exact ⟨by omega,(hk k hkm).and (nodes_len6 _ (by omega)),h6.2⟩
end Go.Ev
end
section
open Go Go.Proofs Go.RowKit
namespace Go.Ev
theorem even_good (l:List (List Val)) (ks:List Key) (hs:∀ r,r ∈ l → ∀ v,v ∈ r → v.s.size ≤ 281474976710656) :
  Good Tryz.prog 9 [.c (rowsC l),.c (keysC ks)] [] (if evenB l ks=true then .tup [.c (rowsC (evenF l)),cB true] else .tup [.c (rowsC []),cB false]) []:=by
 obtain ⟨R,hR⟩:∃ R,R=(if evenB l ks=true then AV.tup [.c (rowsC (evenF l)),cB true] else .tup [.c (rowsC []),cB false]):=⟨_,rfl⟩
 rw [← hR]
 have hno:evenB l ks=false → Le (.tup [.c (.lst 1 false []),cB false]) R:=fun h=>by rw [hR,h];exact Le.refl _
 refine Good.of_vmQ TT 4000 Tryz.func9 rfl rfl ?_
 unfold Tryz.f9
 simp only [go_sem,rowsC,keysC,List.length_map,go_sem_proc]
 by_cases h1:l.length ≤ 60
 ·have g1:((60:Int) < (l.length:Int))=False:=by simp;omega
  simp only [go_sem,g1,go_sem_proc]
  refine Cl.pure TT 4000 (ref_Few l 1500 (by omega) (by omega) hs) (by simp only [go_sem,rowsC,go_sem_proc];rfl) rfl ?_
  by_cases h2:cnt l ≤ 1500
  ·have d2:decide (cnt l ≤ 1500)=true:=decide_eq_true h2
   by_cases h3:ks.length ≤ 5
   ·have g3:((5:Int) < (ks.length:Int))=False:=by simp;omega
    simp only [go_sem,d2,g3,List.length_map,go_sem_proc]
    obtain ⟨w,hw⟩:∃ w,w=wideF l:=⟨_,rfl⟩
    have hw8:w ≤ 8:=hw ▸ wide_le l
    obtain ⟨W,hW⟩:∃ W:Nat → Nat,∀ j,W j=if j=0 then 0 else w:=⟨_,fun _=>rfl⟩
    have hc2:∀ r,r ∈ l → r.length ≤ 1500:=fun r hr=>by
     have h7:=cnt_row hr
     have h8:∀ x:List Val,x.length ≤ cntR x:=fun x=>by
      induction x with
      | nil=>exact Nat.zero_le _
      | cons v x ih =>
       have h9:cntR (v :: x)=1 + v.s.size + cntR x:=by simp [cntR]
       rw [List.length_cons];omega
     have h9:=h8 r
     omega
    refine Lp.atP TT 4000 0 (Nat.le_of_ble_eq_true rfl) [false,false,false,false,true,true,true,true,true,true,true,false,false,false,false,false,false,false,false,false,false,false,false,false,false,false,false,false,true,true,true,true,true,true,true,true,true,true,true,true,true,true,true,true,true,true,true,true,true,true,true,true,true,true,true,true,true,true,true,true,true] (fun j:Nat=>l.length - j) (fun j=>j ≤ l.length ∧ ∀ r,r ∈ l.take j → checkRowS r=0) (fun j=>[(4,.dead),(6,.sl 0 0 j),(7,cI (W j)),(28,cI j)]) (fun j=>[.rows 1 38 (((l.take j).map (fitR w)).map rcell)]) [1] (0) (⟨Nat.zero_le _,fun r hr=>by simp at hr⟩) ?_ ?_
    ·simp only [go_sem,hW,go_sem_proc]
     first | done | rfl
    ·rintro j ⟨i1,i2⟩
     rcases Nat.lt_or_ge j l.length with hlt | hge
     ·obtain ⟨r,hr,hm,ht,hd⟩:=getS hlt
      have hwj:=wrap_succ (j:=j) (by omega)
      have hmn:min (r.length:Int) (w:Int)=((min w r.length:Nat):Int):=by omega
      have hm1:min w r.length ≤ r.length:=Nat.min_le_right ..
      have hrl:=hc2 r hm
      rcases Nat.eq_zero_or_pos j with hj0 | hj0
      ·have hj:((j:Int) == 0)=true:=by simp [hj0]
       have hwf:min (r.length:Int) 8=(w:Int):=by
        subst hj0
        cases l with
        | nil=>simp at hlt
        | cons a l =>
         simp only [List.getElem?_cons_zero,Option.some.injEq] at hr
         subst hr
         rw [hw]
         show _=((min a.length 8:Nat):Int)
         omega
       simp only [go_sem,hlt,hr,hj,List.length_map,go_sem_proc]
       refine Cl.pure TT 4000 (ref_CheckRow r) rfl rfl ?_
       by_cases hck:checkRowS r=0
       ·have htk:List.take (min w r.length) (List.map Val.cs r)=(r.take w).map Val.cs:=by
         rw [← List.map_take]
         congr 1
         rcases Nat.le_total r.length w with h | h
         ·rw [Nat.min_eq_right h,List.take_of_length_le (Nat.le_refl _),List.take_of_length_le h]
         ·rw [Nat.min_eq_left h]
        have hal3:∀ x:List Val,(x.map Val.cs).all (fun y=>y.length == 3)=true:=fun x=>List.all_eq_true.2 fun y hy=>by
         obtain ⟨z,_,rfl⟩:=List.mem_map.1 hy
         rfl
        have hln:min w r.length * 32 ≤ 140737488355328:=by omega
        simp only [go_sem,hck,hwf,hmn,hm1,htk,hal3,List.length_map,List.length_take,hln,go_sem_proc]
        obtain ⟨X,hX⟩:∃ X:Nat → List Val,∀ i,X i=r.take w ++ List.replicate i zeroV:=⟨_,fun _=>rfl⟩
        have hXl:∀ i,(X i).length=min w r.length + i:=fun i=>by rw [hX,List.length_append,List.length_take,List.length_replicate]
        have hXn:∀ i,(X i).map Val.cs ++ [[.int .i64 0,.int .i64 0,.str ⟨#[]⟩]]=(X (i + 1)).map Val.cs:=fun i=>by rw [hX,hX,List.replicate_succ',← List.append_assoc,List.map_append (l₂:=[zeroV])];rfl
        have hX0:(r.take w).map Val.cs=(X 0).map Val.cs:=by rw [hX];simp
        rw [hX0]
        refine Lp.atP TT 4000 1 (Nat.le_of_ble_eq_true rfl) [false,false,false,false,false,false,false,false,false,false,true,false,false,false,false,false,false,false,false,false,false,false,false,false,false,false,false,false,false,false,false,false,false,false,false,false,false,false,false,false,false,false,false,false,false,false,false,false,true,true,true,true,true,true,true,true] (fun i:Nat=>(w - r.length) - i) (fun i=>i ≤ w - r.length) (fun i=>[(47,.dead),(10,.sl 1 0 (min w r.length + i))]) (fun i=>[.rows 3 48 ((X i).map Val.cs)]) [1] (0) (Nat.zero_le _) ?_ ?_
        ·simp only [go_sem,go_sem_proc]
         exact ⟨by first | done | rfl,Fit1.of_eq rfl⟩
        ·rintro i k1
         rcases Nat.lt_or_ge i (w - r.length) with hi | hi
         ·have c1:(((min w r.length + i:Nat):Int) < (w:Int))=True:=by simp;omega
          have hs2:(min w r.length + i + 1) * 32 ≤ 140737488355328:=by omega
          simp only [go_sem,c1,hXl,List.length_map,Nat.zero_add,hal3,hs2,hXn,go_sem_proc]
          exact ⟨i + 1,[3],by omega,by omega,by kernel_rfl,Fit1.of_eq rfl,rfl⟩
         ·have hi2:i=w - r.length:=by omega
          have c1:(((min w r.length + i:Nat):Int) < (w:Int))=False:=by simp;omega
          have hXe:X i=fitR w r:=by rw [hX,hi2];rfl
          have hkx:List.take (min w r.length + i) (List.map Val.cs (X i))=(fitR w r).map Val.cs:=by
           rw [hXe]
           refine List.take_of_length_le ?_
           rw [List.length_map,fitR_len];omega
          have hlo:((l.take j).map (fitR w)).length=j:=by rw [List.length_map,List.length_take];omega
          have hal1:∀ x:List (List Val),(x.map rcell).all (fun y=>y.length == 1)=true:=fun x=>List.all_eq_true.2 fun y hy=>by
           obtain ⟨z,_,rfl⟩:=List.mem_map.1 hy
           rfl
          have ho2:(j + 1) * 24 ≤ 140737488355328:=by omega
          have hon:List.map rcell (List.map (fitR w) (List.take j l)) ++ [[.lst 3 false ((fitR w r).map Val.cs)]]=List.map rcell (List.map (fitR w) (List.take (j + 1) l)):=by rw [ht,List.map_append,List.map_append];rfl
          have hmj:min j l.length=j:=by omega
          simp only [go_sem,c1,hXl,List.length_map,List.length_take,hmj,Nat.zero_add,Nat.le_refl,hkx,hal1,ho2,hon,hlo,hwj,go_sem_proc]
          exact ⟨j + 1,[3],by omega,⟨by omega,fun z hz=>by
           rw [ht] at hz
           rcases List.mem_append.1 hz with hz | hz
           ·exact i2 z hz
           ·rw [List.mem_singleton.1 hz];exact hck⟩,by kernel_rfl,⟨Fit1.of_eq rfl,Fit1.of_eq (by rw [hW,if_neg (by omega)]),Fit1.of_eq rfl⟩,rfl⟩
       ·have hb:evenB l ks=false:=by
         unfold evenB
         rw [show l.all (fun r=>checkRowS r == 0)=false from by
          rw [Bool.eq_false_iff];intro h
          have:=List.all_eq_true.1 h r hm
          exact hck (by simpa using this)]
         rw [Bool.and_false,Bool.false_and]
        have hck':(checkRowS r != 0)=true:=bne_iff_ne.2 hck
        simp only [go_sem,hck',go_sem_proc]
        rw [hR,hb]
        exact Le.refl _
      ·have hj:((j:Int) == 0)=false:=by simp;omega
       have hwf:W j=w:=by rw [hW,if_neg (by omega)]
       simp only [go_sem,hlt,hr,hj,List.length_map,go_sem_proc]
       refine Cl.pure TT 4000 (ref_CheckRow r) rfl rfl ?_
       by_cases hck:checkRowS r=0
       ·have htk:List.take (min w r.length) (List.map Val.cs r)=(r.take w).map Val.cs:=by
         rw [← List.map_take]
         congr 1
         rcases Nat.le_total r.length w with h | h
         ·rw [Nat.min_eq_right h,List.take_of_length_le (Nat.le_refl _),List.take_of_length_le h]
         ·rw [Nat.min_eq_left h]
        have hal3:∀ x:List Val,(x.map Val.cs).all (fun y=>y.length == 3)=true:=fun x=>List.all_eq_true.2 fun y hy=>by
         obtain ⟨z,_,rfl⟩:=List.mem_map.1 hy
         rfl
        have hln:min w r.length * 32 ≤ 140737488355328:=by omega
        simp only [go_sem,hck,hwf,hmn,hm1,htk,hal3,List.length_map,List.length_take,hln,go_sem_proc]
        obtain ⟨X,hX⟩:∃ X:Nat → List Val,∀ i,X i=r.take w ++ List.replicate i zeroV:=⟨_,fun _=>rfl⟩
        have hXl:∀ i,(X i).length=min w r.length + i:=fun i=>by rw [hX,List.length_append,List.length_take,List.length_replicate]
        have hXn:∀ i,(X i).map Val.cs ++ [[.int .i64 0,.int .i64 0,.str ⟨#[]⟩]]=(X (i + 1)).map Val.cs:=fun i=>by rw [hX,hX,List.replicate_succ',← List.append_assoc,List.map_append (l₂:=[zeroV])];rfl
        have hX0:(r.take w).map Val.cs=(X 0).map Val.cs:=by rw [hX];simp
        rw [hX0]
        refine Lp.atP TT 4000 1 (Nat.le_of_ble_eq_true rfl) [false,false,false,false,false,false,false,false,false,false,true,false,false,false,false,false,false,false,false,false,false,false,false,false,false,false,false,false,false,false,false,false,false,false,false,false,false,false,false,false,false,false,false,false,false,false,false,false,true,true,true,true,true,true,true,true] (fun i:Nat=>(w - r.length) - i) (fun i=>i ≤ w - r.length) (fun i=>[(47,.dead),(10,.sl 1 0 (min w r.length + i))]) (fun i=>[.rows 3 48 ((X i).map Val.cs)]) [1] (0) (Nat.zero_le _) ?_ ?_
        ·simp only [go_sem,go_sem_proc]
         exact ⟨by first | done | rfl,Fit1.of_eq rfl⟩
        ·rintro i k1
         rcases Nat.lt_or_ge i (w - r.length) with hi | hi
         ·have c1:(((min w r.length + i:Nat):Int) < (w:Int))=True:=by simp;omega
          have hs2:(min w r.length + i + 1) * 32 ≤ 140737488355328:=by omega
          simp only [go_sem,c1,hXl,List.length_map,Nat.zero_add,hal3,hs2,hXn,go_sem_proc]
          exact ⟨i + 1,[3],by omega,by omega,by kernel_rfl,Fit1.of_eq rfl,rfl⟩
         ·have hi2:i=w - r.length:=by omega
          have c1:(((min w r.length + i:Nat):Int) < (w:Int))=False:=by simp;omega
          have hXe:X i=fitR w r:=by rw [hX,hi2];rfl
          have hkx:List.take (min w r.length + i) (List.map Val.cs (X i))=(fitR w r).map Val.cs:=by
           rw [hXe]
           refine List.take_of_length_le ?_
           rw [List.length_map,fitR_len];omega
          have hlo:((l.take j).map (fitR w)).length=j:=by rw [List.length_map,List.length_take];omega
          have hal1:∀ x:List (List Val),(x.map rcell).all (fun y=>y.length == 1)=true:=fun x=>List.all_eq_true.2 fun y hy=>by
           obtain ⟨z,_,rfl⟩:=List.mem_map.1 hy
           rfl
          have ho2:(j + 1) * 24 ≤ 140737488355328:=by omega
          have hon:List.map rcell (List.map (fitR w) (List.take j l)) ++ [[.lst 3 false ((fitR w r).map Val.cs)]]=List.map rcell (List.map (fitR w) (List.take (j + 1) l)):=by rw [ht,List.map_append,List.map_append];rfl
          have hmj:min j l.length=j:=by omega
          simp only [go_sem,c1,hXl,List.length_map,List.length_take,hmj,Nat.zero_add,Nat.le_refl,hkx,hal1,ho2,hon,hlo,hwj,go_sem_proc]
          exact ⟨j + 1,[3],by omega,⟨by omega,fun z hz=>by
           rw [ht] at hz
           rcases List.mem_append.1 hz with hz | hz
           ·exact i2 z hz
           ·rw [List.mem_singleton.1 hz];exact hck⟩,by kernel_rfl,⟨Fit1.of_eq rfl,Fit1.of_eq (by rw [hW,if_neg (by omega)]),Fit1.of_eq rfl⟩,rfl⟩
       ·have hb:evenB l ks=false:=by
         unfold evenB
         rw [show l.all (fun r=>checkRowS r == 0)=false from by
          rw [Bool.eq_false_iff];intro h
          have:=List.all_eq_true.1 h r hm
          exact hck (by simpa using this)]
         rw [Bool.and_false,Bool.false_and]
        have hck':(checkRowS r != 0)=true:=bne_iff_ne.2 hck
        simp only [go_sem,hck',go_sem_proc]
        rw [hR,hb]
        exact Le.refl _
     ·have hjl:j=l.length:=by omega
      subst hjl
      have hWl:W l.length=w:=by
       rw [hW]
       split
       ·rename_i h0
        rw [hw,List.eq_nil_of_length_eq_zero h0];rfl
       ·rfl
      rw [List.take_length] at i2
      simp only [go_sem,Nat.lt_irrefl,List.length_map,hWl,List.take_length,go_sem_proc]
      refine Lp.at TT 4000 1 (Nat.le_of_ble_eq_true rfl) [false,false,false,false,true,true,false,false,false,false,false,false,true,false,false,false,false,false,false,false,false,false,false,false,false,false,false,false,false,false,false,false,false,false,false,false,false,false,false,false,false,false,false,false,false,false,false,false,false,false,false,false,false,false,false,false,false,false,false,false,false,false,false,true,true,true,true,true,true,true,true,true,true,true,true,true,true,true,true,true,true,true,true,true,true] (fun k:Nat=>ks.length - k) (fun k=>k ≤ ks.length ∧ ∀ y,y ∈ ks.take k → okKey w y=true) (fun k=>[(63,cI k)]) (fun _=>[]) (0) (⟨Nat.zero_le _,fun y hy=>by simp at hy⟩) ?_ ?_
      ·simp only [go_sem,go_sem_proc]
       first | done | rfl
      ·rintro k ⟨k1,k2⟩
       rcases Nat.lt_or_ge k ks.length with hlt | hge
       ·obtain ⟨x,hx,hm,ht,hd⟩:=getS hlt
        have hwk:=wrap_succ (j:=k) (by omega)
        have hbad:okKey w x=false → evenB l ks=false:=fun h=>by
         unfold evenB
         rw [← hw,show ks.all (okKey w)=false from by
          rw [Bool.eq_false_iff];intro h2
          have:=List.all_eq_true.1 h2 x hm
          rw [h] at this;cases this]
         rw [Bool.and_false]
        simp only [go_sem,hlt,hx,go_sem_proc]
        refine Cl.pure TT 4000 (r07_Few x.e 30 (by omega) (by omega)) rfl rfl ?_
        cases hf:decide (0 ≤ leftE x.e 30)
        ·simp only [go_sem,hf,go_sem_proc]
         exact hno (hbad (by unfold okKey;rw [hf];rfl))
        simp only [go_sem,hf,go_sem_proc]
        refine Cl.pure TT 4000 (r10_Light x.e) rfl rfl ?_
        cases hg:lightE x.e
        ·simp only [go_sem,hf,hg,go_sem_proc]
         exact hno (hbad (by unfold okKey;rw [hf,hg];rfl))
        simp only [go_sem,hf,hg,go_sem_proc]
        have hnod:=left_nodes x.e 30 (of_decide_eq_true hf)
        have hlf:=of_decide_eq_true hf
        refine Cl.pure TT 4000 (r10_Check x.e (w:Int) (by omega)) rfl rfl ?_
        by_cases hc:checkN w x.e=0
        ·simp only [go_sem,hc,hwk,go_sem_proc]
         exact ⟨k + 1,by omega,⟨by omega,fun y hy=>by
          rw [ht] at hy
          rcases List.mem_append.1 hy with hy | hy
          ·exact k2 y hy
          ·rw [List.mem_singleton.1 hy];unfold okKey;rw [hf,hg,hc];rfl⟩,Fit1.of_eq rfl⟩
        ·have hc':(checkN w x.e != 0)=true:=bne_iff_ne.2 hc
         simp only [go_sem,hc',go_sem_proc]
         exact hno (hbad (by
          unfold okKey
          rw [show (checkN w x.e == 0)=false from beq_eq_false_iff_ne.2 hc,Bool.and_false]))
       ·have hkl:k=ks.length:=by omega
        subst hkl
        rw [List.take_length] at k2
        have hfin:evenB l ks=true:=by
         unfold evenB
         rw [decide_eq_true h1,decide_eq_true h2,decide_eq_true h3,show l.all (fun r=>checkRowS r == 0)=true from List.all_eq_true.2 fun r hr=>by rw [i2 r hr];rfl,← hw,show ks.all (okKey w)=true from List.all_eq_true.2 k2]
         rfl
        have hlx:List.take l.length (List.map rcell (List.map (fitR w) l))=List.map rcell (List.map (fitR w) l):=List.take_of_length_le (by simp)
        simp only [go_sem,Nat.lt_irrefl,List.length_map,hlx,Nat.zero_add,Nat.le_refl,go_sem_proc]
        rw [hR,hfin,hw]
        exact Le.of_eq rfl
   ·have g3:((5:Int) < (ks.length:Int))=True:=by simp;omega
    simp only [go_sem,d2,g3,List.length_map,go_sem_proc]
    exact hno (by unfold evenB;rw [decide_eq_false h3,Bool.and_false,Bool.false_and,Bool.false_and])
  ·have d2:decide (cnt l ≤ 1500)=false:=decide_eq_false h2
   simp only [go_sem,d2,go_sem_proc]
   exact hno (by unfold evenB;rw [d2,Bool.and_false,Bool.false_and,Bool.false_and,Bool.false_and])
 ·have g1:((60:Int) < (l.length:Int))=True:=by simp;omega
  simp only [go_sem,g1,go_sem_proc]
  exact hno (by unfold evenB;rw [decide_eq_false h1];rfl)
end Go.Ev
end
