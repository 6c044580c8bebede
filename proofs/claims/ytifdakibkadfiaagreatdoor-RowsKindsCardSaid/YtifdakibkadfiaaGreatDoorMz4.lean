import Derived.Test.YtifdakibkadfiaaGreatDoorMz2
import Derived.Test.YtifdakibkadfiaaGreatDoorMz3
import Derived.Test.YtifdakibkadfiaaGreatDoorMe2
import Derived.Test.YtifdakibkadfiaaGreatDoorMz1
set_option linter.all false
set_option maxRecDepth 100000
set_option maxHeartbeats 8000000
section
open Go Go.Proofs Go.RowKit
namespace Go.Ev
mutual
def znD (wa wb:Int):Expr → Expr
 | .mk op v t n l=>if op.toList == sAt.toList then atE (if v.i < wa then IntKind.wrap .i64 (v.i + wb) else IntKind.wrap .i64 (v.i - wa)) else .mk op v t n (zoQ wa wb l)
def zoQ (wa wb:Int):List Expr → List Expr
 | []=>[]
 | e :: l=>znD wa wb e :: zoQ wa wb l
end
theorem zof (wa wb:Int):∀ l,zoQ wa wb l=l.map (znD wa wb)
 | []=>rfl
 | e :: l=>by simp [zoQ,zof wa wb l]
theorem zoA (wa wb:Int) (e:Expr):znD wa wb e=if e.op.toList == sAt.toList then atE (if e.v.i < wa then IntKind.wrap .i64 (e.v.i + wb) else IntKind.wrap .i64 (e.v.i - wa)) else .mk e.op e.v e.table e.name (e.l.map (znD wa wb)):=by
 cases e;rw [znD,zof];rfl
theorem zn2 (wa wb:Int) (e:Expr):Expr.All (fun x=>x.l.length ≤ 1000000) e → Good Tryz.prog 27 [e.av,cI wa,cI wb] [] (znD wa wb e).av []:=by
 induction e using Expr.ind with
 | h e ih =>
 intro ha
 rw [Expr.vu] at ha
 obtain ⟨hlen,hs⟩:=ha
 have hal7:∀ x:List Expr,(x.map Expr.cs).all (fun y=>y.length == 7)=true:=fun x=>List.all_eq_true.2 fun y hy=>by
  obtain ⟨z,_,rfl⟩:=List.mem_map.1 hy
  rw [Expr.Yc];rfl
 refine Good.zg TT 4000 Tryz.func27 rfl rfl ?_
 unfold Tryz.f27
 rw [zoA]
 cases ho:(e.op.toList == sAt.toList) with
 | true =>
  by_cases hi:e.v.i < wa
  ·simp only [go_sem,ho,hi,go_sem_proc]
   refine Cl.pure TT 4000 (zmN _) rfl rfl ?_
   simp only [go_sem,go_sem_proc]
  ·simp only [go_sem,ho,hi,go_sem_proc]
   refine Cl.pure TT 4000 (zmN _) rfl rfl ?_
   simp only [go_sem,go_sem_proc]
 | false =>
  simp only [go_sem,ho,Bool.false_eq_true,List.length_map,go_sem_proc]
  refine Lp.atP TT 4000 2 (Nat.le_of_ble_eq_true rfl) [false,false,false,false,false,false,false,true,false,true,false,false,false,false,false,false,false,false,false,false,false,false,false,false,false,false,false,false,false,false,false,false,false,true,true,true,true,true,true,true,true,true,true,true,true] (fun j:Nat=>e.l.length - j) (fun j=>j ≤ e.l.length) (fun j=>[(7,.sl 2 0 j),(33,cI j)]) (fun j=>[.rows 7 29 (((e.l.take j).map (znD wa wb)).map Expr.cs)]) [2] (0) (Nat.zero_le _) ?_ ?_
  ·simp only [go_sem,go_sem_proc]
   first | done | rfl
  ·rintro j i1
   rcases Nat.lt_or_ge j e.l.length with hlt | hge
   ·obtain ⟨x,hx,hm,ht,hd⟩:=vj hlt
    have hw:=zh (j:=j) (by omega)
    have hlj:((e.l.take j).map (znD wa wb)).length=j:=by rw [List.length_map,List.length_take];omega
    have hnext:List.map Expr.cs (List.map (znD wa wb) (List.take j e.l)) ++ [(znD wa wb x).cs]=List.map Expr.cs (List.map (znD wa wb) (List.take (j + 1) e.l)):=by rw [ht,List.map_append,List.map_append];rfl
    rw [Expr.Yc (znD wa wb x)] at hnext
    have hxe:(e.l.map Expr.cs)[j]?=some x.cs:=by rw [List.getElem?_map,hx];rfl
    rw [Expr.Yc x] at hxe
    simp only [go_sem,hlt,hxe,hx,go_sem_proc]
    refine Cl.pure TT 4000 (ih x hm (hs x hm)) rfl rfl ?_
    simp only [go_sem,hw,hal7,hlj,List.length_map,List.length_take,Nat.zero_add,hnext,go_sem_proc]
    exact ⟨by omega,j + 1,[5],by omega,by omega,rfl,⟨zq.of_eq rfl,zq.of_eq rfl⟩,rfl⟩
   ·have hj:j=e.l.length:=by omega
    subst hj
    have hk:List.take e.l.length (List.map Expr.cs (List.map (znD wa wb) e.l))=List.map Expr.cs (List.map (znD wa wb) e.l):=List.take_of_length_le (by simp)
    simp only [go_sem,Nat.lt_irrefl,List.length_map,Nat.zero_add,Nat.le_refl,List.take_length,hk,go_sem_proc]
def znO (w:Nat) (r:List Val):List Val:=r.drop w ++ r.take w
theorem zoa (l:List (List Val)) (w:Nat) (hl:l.length ≤ 1000000) (hw9:w ≤ 1000) (hr:∀ r,r ∈ l → w ≤ r.length ∧ r.length ≤ 1000):Good Tryz.prog 29 [.c (qD l),cI w] [] (.c (qD (l.map (znO w)))) []:=by
 have hal1:∀ x:List (List Val),(x.map qH).all (fun y=>y.length == 1)=true:=fun x=>List.all_eq_true.2 fun y hy=>by
  obtain ⟨z,_,rfl⟩:=List.mem_map.1 hy
  rfl
 refine Good.zg TT 4000 Tryz.func29 rfl rfl ?_
 unfold Tryz.f29
 simp only [go_sem,qD,List.length_map,go_sem_proc]
 refine Lp.atP TT 4000 0 (Nat.le_of_ble_eq_true rfl) [false,false,false,false,false,true,false,true,false,false,true,true,true,true,true,true,true,true,true,true,true,true,true,true,true] (fun j:Nat=>l.length - j) (fun j=>j ≤ l.length) (fun j=>[(4,.dead),(5,.sl 0 0 j),(10,cI j)]) (fun j=>[.rows 1 47 (((l.take j).map (znO w)).map qH)]) [1] (0) (Nat.zero_le _) ?_ ?_
 ·simp only [go_sem,go_sem_proc]
  first | done | rfl
 ·rintro j i1
  rcases Nat.lt_or_ge j l.length with hlt | hge
  ·obtain ⟨r,hr2,hm,ht,hd⟩:=vj hlt
   have hw:=zh (j:=j) (by omega)
   obtain ⟨hwr,hr3⟩:=hr r hm
   have hlj:((l.take j).map (znO w)).length=j:=by rw [List.length_map,List.length_take];omega
   have hsz:(j + 1) * 24 ≤ 140737488355328:=by omega
   have hnext:List.map qH (List.map (znO w) (List.take j l)) ++ [[.lst 3 false ((znO w r).map Val.cs)]]=List.map qH (List.map (znO w) (List.take (j + 1) l)):=by rw [ht,List.map_append,List.map_append];rfl
   have c1:(w:Int) ≤ (r.length:Int):=by omega
   simp only [go_sem,hlt,hr2,List.length_map,c1,hwr,← List.map_take,← List.map_drop,go_sem_proc]
   refine Dr.ofC TT (by kernel_rfl) [(45,[.c (qk (r.drop w)),.c (qk (r.take w))],.c (qk (znO w r)))] ⟨⟨Q8 _ _ (by rw [List.length_drop,List.length_take];omega),rfl⟩,trivial⟩ ?_
   simp only [go_sem,hlt,hr2,List.length_map,c1,hwr,← List.map_take,← List.map_drop,List.take_length,hal1,hlj,hsz,hnext,Nat.zero_add,go_sem_proc]
   refine jy.of TT 4000 (zJ (by kernel_rfl)) ?_
   simp only [go_sem,hw,go_sem_proc]
   exact ⟨j + 1,[10],by omega,by omega,by kernel_rfl,⟨zq.of_eq rfl,zq.of_eq rfl⟩,rfl⟩
  ·have hj:j=l.length:=by omega
   subst hj
   have hk:List.take l.length (List.map qH (List.map (znO w) l))=List.map qH (List.map (znO w) l):=List.take_of_length_le (by simp)
   simp only [go_sem,Nat.lt_irrefl,List.length_map,Nat.zero_add,Nat.le_refl,List.take_length,hk,go_sem_proc]
   first | done | exact Le.refl _
end Go.Ev
end
section
open Go Go.Proofs Go.RowKit
namespace Go.Ev
theorem zor:(sAt.toList == wz.toList)=false:=by decide +kernel
theorem zoT:(sAt.toList == sAt.toList)=true:=by decide +kernel
theorem zoJ (i:Int):Yi (atE i)=false:=by
 have h:Yi (atE 0)=false:=by decide +kernel
 exact h
theorem zow (op:ByteArray) (v:Val) (t n:ByteArray) {l l':List Expr} (h:l.length=l'.length):ZX (.mk op v t n l)=ZX (.mk op v t n l'):=by
 have e0:∀ l:List Expr,ZX (.mk op v t n l)=(vg op l.length && ((op.toList == wz.toList) || v.same zeroV) && (t.size == 0) && (if op.toList == wz.toList then v.ok && n.size == 0 else if op.toList == vS.toList then kR n else n.size == 0)):=fun _=>rfl
 rw [e0,e0,h]
theorem zoo (e:Expr):ZX (.mk e.op e.v e.table e.name e.l)=ZX e:=by cases e;rfl
structure zoM (wa wb:Nat) (e s:Expr):Prop where
 node:Expr.All (Qj ((wb + wa:Nat):Int)) s
 all:Expr.All (fun y=>I64 y.v.i ∧ y.l.length ≤ 1000) s
 wt:wtE s=wtE e
 ev:∀ x y:List Val,x.length=wa → y.length=wb → z7 (y ++ x) s=z7 (x ++ y) e
theorem znW {r r':List Val} {m:Expr → Expr}:∀ {l:List Expr},(∀ x,x ∈ l → z7 r' (m x)=z7 r x) → xc r' (l.map m)=xc r l
 | [],_=>rfl
 | x :: l,h=>by rw [List.map_cons,xc,xc,h x (by simp),znW fun y hy=>h y (by simp [hy])]
theorem zoz {m:Expr → Expr}:∀ {l:List Expr},(∀ x,x ∈ l → wtE (m x)=wtE x) → wtL (l.map m)=wtL l
 | [],_=>rfl
 | x :: l,h=>by rw [List.map_cons,wtL,wtL,h x (by simp),zoz fun y hy=>h y (by simp [hy])]
theorem zoN (wa wb:Nat) (h1:wa ≤ 1000) (h2:wb ≤ 1000) (e:Expr):Expr.All (Qj ((wa + wb:Nat):Int)) e → Expr.All (fun y=>I64 y.v.i ∧ y.l.length ≤ 1000) e → zoM wa wb e (znD wa wb e):=by
 induction e using Expr.ind with
 | h e ih =>
 intro hn ha
 rw [Expr.vu] at hn ha
 rw [zoA]
 cases ho:(e.op.toList == sAt.toList) with
 | true =>
  rw [if_pos rfl]
  have hd:=hn.1.hd
  rw [if_pos ho] at hd
  have hd2:=hd
  unfold atB at hd2
  simp only [Bool.and_eq_true,decide_eq_true_eq] at hd2
  obtain ⟨⟨⟨⟨⟨⟨_,_⟩,i0⟩,i1⟩,_⟩,_⟩,_⟩:=hd2
  have hli:(e.op.toList == wz.toList)=false:=by rw [beq_iff_eq.1 ho];exact zor
  obtain ⟨i,hi,hi0,hi1,hiv⟩:∃ i:Int,(if e.v.i < (wa:Int) then IntKind.wrap .i64 (e.v.i + wb) else IntKind.wrap .i64 (e.v.i - wa))=i ∧ 0 ≤ i ∧ i < ((wb + wa:Nat):Int) ∧ ((e.v.i < wa ∧ i=e.v.i + wb) ∨ (¬ e.v.i < wa ∧ i=e.v.i - wa)):=by
   by_cases hlt:e.v.i < (wa:Int)
   ·exact ⟨e.v.i + wb,by rw [if_pos hlt,qd (by omega) (by omega)],by omega,by omega,.inl ⟨hlt,rfl⟩⟩
   ·exact ⟨e.v.i - wa,by rw [if_neg hlt,qd (by omega) (by omega)],by omega,by omega,.inr ⟨hlt,rfl⟩⟩
  rw [hi]
  have hat:((atE i).op.toList == sAt.toList)=true:=zoT
  refine ⟨?_,?_,?_,?_⟩
  ·rw [Expr.vu]
   refine ⟨⟨zoJ i,?_⟩,fun y hy=>by cases hy⟩
   rw [if_pos hat]
   unfold atB
   simp only [Bool.and_eq_true,decide_eq_true_eq]
   exact ⟨⟨⟨⟨⟨⟨rfl,rfl⟩,hi0⟩,hi1⟩,rfl⟩,rfl⟩,rfl⟩
  ·rw [Expr.vu]
   refine ⟨⟨?_,Nat.zero_le _⟩,fun y hy=>by cases hy⟩
   show I64 i
   unfold I64;omega
  ·have el:((atE i).op.toList == wz.toList)=false:=zor
   rw [ze9,ze9 e,hli,ho,hat,el];rfl
  ·intro x y hx hy
   have el:((atE i).op.toList == wz.toList)=false:=zor
   rw [zbt,zbt (x ++ y) e,el,hli,ho,hat]
   show atF (y ++ x) ⟨2,i,VL⟩=atF (x ++ y) e.v
   have:(y ++ x)[i.toNat]?=(x ++ y)[e.v.i.toNat]?:=by
    rcases hiv with ⟨a,b⟩ | ⟨a,b⟩
    ·rw [List.getElem?_append_right (by omega),List.getElem?_append_left (by omega)]
     congr 1;omega
    ·rw [List.getElem?_append_left (by omega),List.getElem?_append_right (by omega)]
     congr 1;omega
   simp only [atF]
   rw [this]
 | false =>
  rw [if_neg (by simp)]
  have hk:∀ y,y ∈ e.l → zoM wa wb y (znD wa wb y):=fun y hy=>ih y hy (hn.2 y hy) (ha.2 y hy)
  refine ⟨?_,?_,?_,?_⟩
  ·rw [Expr.vu]
   refine ⟨⟨hn.1.np,?_⟩,fun y hy=>?_⟩
   ·have hd:=hn.1.hd
    rw [ho,if_neg Bool.false_ne_true] at hd
    show (if e.op.toList == sAt.toList then _ else ZX (.mk e.op e.v e.table e.name (e.l.map (znD wa wb))))=true
    rw [ho,if_neg Bool.false_ne_true,zow (l':=e.l) _ _ _ _ (List.length_map ..),zoo]
    exact hd
   ·obtain ⟨z,hz,rfl⟩:=List.mem_map.1 hy
    exact (hk z hz).node
  ·rw [Expr.vu]
   refine ⟨⟨ha.1.1,?_⟩,fun y hy=>?_⟩
   ·show (e.l.map (znD wa wb)).length ≤ 1000
    rw [List.length_map];exact ha.1.2
   ·obtain ⟨z,hz,rfl⟩:=List.mem_map.1 hy
    exact (hk z hz).all
  ·rw [ze9,ze9 e]
   show (if e.op.toList == wz.toList then _ else if e.op.toList == sAt.toList then _ else 100000 + wtL (e.l.map (znD wa wb)))=_
   rw [zoz fun x hx=>(hk x hx).wt]
   rfl
  ·intro x y hx hy
   rw [zbt,zbt (x ++ y) e]
   have hl:xc (y ++ x) (Expr.mk e.op e.v e.table e.name (e.l.map (znD wa wb))).l=xc (x ++ y) e.l:=znW fun z hz=>(hk z hz).ev x y hx hy
   rw [hl,ho]
   show (if e.op.toList == wz.toList then _ else if e.op.toList == sAt.toList then _ else _)=_
   rw [ho]
   rfl
theorem zot {r:List Val} {w:Nat} {e:Expr} (hr:r.length=w ∧ ∀ v,v ∈ r → I64 v.i ∧ v.s.size ≤ 100000 ∧ v.ok=true) (h1:wtE e ≤ 9000000) (h2:Expr.All (fun y=>I64 y.v.i ∧ y.l.length ≤ 1000) e) (h4:Expr.All (Qj (w:Int)) e):zjI r e:=by
 have key:∀ e:Expr,Expr.All (fun y=>I64 y.v.i ∧ y.l.length ≤ 1000) e → Expr.All (Qj (w:Int)) e → Expr.All (fun y=>zkj w y ∧ Yx y) e:=fun e=>by
  induction e using Expr.ind with
  | h e ih =>
   intro a b
   rw [Expr.vu] at a b ⊢
   exact ⟨⟨⟨zhR b.1,a.1.1,a.1.2⟩,zcW b.1⟩,fun y hy=>ih y hy (a.2 y hy) (b.2 y hy)⟩
 have hall:=key e h2 h4
 rw [← hr.1] at hall
 have hrv:∀ v,v ∈ r → I64 v.i ∧ v.s.size ≤ 100000:=fun v hv=>⟨(hr.2 v hv).1,(hr.2 v hv).2.1⟩
 obtain ⟨q1,q2,q3⟩:=WI r hrv e h1 (hall.imp fun y hy=>hy.1)
 refine ⟨q2,zkp r hrv e h1 hall,q3 (fun v hv=>(hr.2 v hv).2.2) (h4.imp fun y hy=>zh3 hy),q1.1,q1.2⟩
theorem zos {w:Nat} {e:Expr} (he:zea w e=true) (hI:Expr.All (fun x=>I64 x.v.i) e):wtE e ≤ 9000000 ∧ Expr.All (fun y=>I64 y.v.i ∧ y.l.length ≤ 1000) e ∧ Expr.All (Qj (w:Int)) e:=by
 obtain ⟨h1,h2,h3,_⟩:=zi1 he hI
 exact ⟨h1,h2,((zgQ (w:Int) e).1 h3).1⟩
end Go.Ev
end
section
open Go Go.Proofs Go.RowKit
namespace Go.Ev
theorem znV:∀ x y z:List UInt8,Op.bytesLess x y=true → Op.bytesLess y z=true → Op.bytesLess x z=true
 | _,[],[],h,_=>by simp [Op.bytesLess] at h
 | _,_ :: _,[],_,h=>by simp [Op.bytesLess] at h
 | [],_,c :: z,_,_=>rfl
 | a :: x,[],c :: z,h,_=>by simp [Op.bytesLess] at h
 | a :: x,b :: y,c :: z,h1,h2=>by
  have ih:=znV x y z
  simp only [Op.bytesLess,Bool.or_eq_true,Bool.and_eq_true,decide_eq_true_eq,beq_iff_eq] at h1 h2 ⊢
  rcases h1 with h1 | ⟨rfl,h1⟩
  ·rcases h2 with h2 | ⟨rfl,_⟩
   ·exact .inl (UInt8.lt_trans h1 h2)
   ·exact .inl h1
  ·rcases h2 with h2 | ⟨rfl,h2⟩
   ·exact .inl h2
   ·exact .inr ⟨rfl,ih h1 h2⟩
theorem zoG:∀ x y:List UInt8,Op.bytesLess x y=false → Op.bytesLess y x=false → x=y
 | [],[],_,_=>rfl
 | [],b :: y,h,_=>by simp [Op.bytesLess] at h
 | a :: x,[],_,h=>by simp [Op.bytesLess] at h
 | a :: x,b :: y,h1,h2=>by
  simp only [Op.bytesLess,Bool.or_eq_false_iff,Bool.and_eq_false_iff,decide_eq_false_iff_not,beq_eq_false_iff_ne] at h1 h2
  have hab:a=b:=by
   rcases UInt8.lt_or_lt_of_ne (a:=a) (b:=b) with h
   exact Decidable.byContradiction fun hne=>(h hne).elim h1.1 h2.1
  subst hab
  rw [zoG x y (h1.2.resolve_left (by simp)) (h2.2.resolve_left (by simp))]
theorem zoC (x y:List UInt8) (h:Op.bytesLess x y=true):Op.bytesLess y x=false:=by
 cases h2:Op.bytesLess y x with
 | false=>rfl
 | true=>have:=znV x y x h h2;rw [zeu] at this;cases this
theorem lt_iff (a b:Val):a.lt b=true ↔ a.k < b.k ∨ (a.k=b.k ∧ a.i < b.i) ∨ (a.k=b.k ∧ a.i=b.i ∧ Op.bytesLess a.s.toList b.s.toList=true):=by
 simp only [Val.lt,Bool.or_eq_true,Bool.and_eq_true,decide_eq_true_eq,beq_iff_eq,or_assoc,and_assoc]
theorem znC (a b:Val):a.same b=true ↔ a.k=b.k ∧ a.i=b.i ∧ a.s.toList=b.s.toList:=by
 simp only [Val.same,Bool.and_eq_true,beq_iff_eq,and_assoc]
theorem lt_asymm (a b:Val) (h:a.lt b=true):b.lt a=false:=by
 cases h2:b.lt a with
 | false=>rfl
 | true =>
  rw [lt_iff] at h h2
  rcases h with h | ⟨h,h'⟩ | ⟨h,h',h''⟩ <;> rcases h2 with g | ⟨g,g'⟩ | ⟨g,g',g''⟩ <;> first | omega | (rw [zoC _ _ h''] at g'';cases g'')
theorem zoO (a b:Val) (h:a.lt b=false) (h2:b.lt a=false):a.same b=true:=by
 have n1:¬ a.lt b=true:=by rw [h];simp
 have n2:¬ b.lt a=true:=by rw [h2];simp
 rw [lt_iff] at n1 n2
 rw [znC]
 have e1:a.k=b.k:=by omega
 have e2:a.i=b.i:=by omega
 refine ⟨e1,e2,zoG _ _ ?_ ?_⟩
 ·exact Bool.eq_false_iff.2 fun h=>n1 (.inr (.inr ⟨e1,e2,h⟩))
 ·exact Bool.eq_false_iff.2 fun h=>n2 (.inr (.inr ⟨e1.symm,e2.symm,h⟩))
theorem zn7 (a b:Val) (h:a.same b=true):a.lt b=false:=by
 refine Bool.eq_false_iff.2 fun h2=>?_
 rw [lt_iff] at h2
 obtain ⟨e1,e2,e3⟩:=(znC a b).1 h
 rcases h2 with g | ⟨g,g'⟩ | ⟨g,g',g''⟩
 ·omega
 ·omega
 ·rw [e3,zeu] at g'';cases g''
theorem znL (a b:Val) (h:a.same b=true):b.same a=true:=by
 obtain ⟨e1,e2,e3⟩:=(znC a b).1 h
 exact (znC b a).2 ⟨e1.symm,e2.symm,e3.symm⟩
theorem zny (a b:Val):b.cmp a = - a.cmp b:=by
 unfold Val.cmp
 cases h1:a.lt b with
 | true =>
  have h2:=lt_asymm a b h1
  have h3:b.same a=false:=Bool.eq_false_iff.2 fun h=>by have:=zn7 a b (znL _ _ h);rw [h1] at this;cases this
  rw [h2,h3];rfl
 | false =>
  cases h2:b.lt a with
  | true =>
   have h3:a.same b=false:=Bool.eq_false_iff.2 fun h=>by have:=zn7 b a (znL _ _ h);rw [h2] at this;cases this
   rw [h3];rfl
  | false =>
   have h3:=zoO a b h1 h2
   rw [h3,znL _ _ h3];rfl
theorem zn0 (a b c:Val) (h:a.lt b=true) (g:b.lt c=true):a.lt c=true:=by
 rw [lt_iff] at h g ⊢
 rcases h with h | ⟨h,h'⟩ | ⟨h,h',h''⟩ <;> rcases g with g | ⟨g,g'⟩ | ⟨g,g',g''⟩
 ·exact .inl (by omega)
 ·exact .inl (by omega)
 ·exact .inl (by omega)
 ·exact .inl (by omega)
 ·exact .inr (.inl ⟨by omega,by omega⟩)
 ·exact .inr (.inl ⟨by omega,by omega⟩)
 ·exact .inl (by omega)
 ·exact .inr (.inl ⟨by omega,by omega⟩)
 ·exact .inr (.inr ⟨by omega,by omega,znV _ _ _ h'' g''⟩)
theorem zod (a b:Val):a.cmp b < 0 ↔ a.lt b=true:=by
 unfold Val.cmp
 cases a.lt b <;> cases a.same b <;> simp
theorem znX (a b:Val):a.cmp b=0 ↔ a.same b=true:=by
 unfold Val.cmp
 cases h:a.lt b
 ·cases a.same b <;> simp
 ·have h3:a.same b=false:=Bool.eq_false_iff.2 fun h'=>by have:=zn7 a b h';rw [h] at this;cases this
  rw [h3];simp
theorem znY (a b c:Val) (h:a.cmp b=0):a.cmp c=b.cmp c:=by
 obtain ⟨e1,e2,e3⟩:=(znC a b).1 ((znX a b).1 h)
 unfold Val.cmp Val.lt Val.same
 rw [e1,e2,e3]
def Tri (x y z:Int):Prop:=(x < 0 → y < 0 → z < 0) ∧ (x > 0 → y > 0 → z > 0) ∧ (x=0 → z=y) ∧ (y=0 → z=x)
theorem zoH (a b c:Val):Tri (a.cmp b) (b.cmp c) (a.cmp c):=by
 refine ⟨fun h g=>?_,fun h g=>?_,fun h=>znY a b c h,fun h=>?_⟩
 ·rw [zod] at *;exact zn0 a b c h g
 ·have h1:=zny a b
  have h2:=zny b c
  have h3:=zny a c
  have:=(zod c a).2 (zn0 c b a ((zod c b).1 (by omega)) ((zod b a).1 (by omega)))
  omega
 ·have h1:=zny a b
  have h2:=zny b c
  have h3:=zny a c
  have:=znY c b a (by omega)
  omega
theorem zoP {s t:ByteArray} (h:s.toList=t.toList):s=t:=by
 rw [Go.ByteArray.toList_eq,Go.ByteArray.toList_eq] at h
 exact ByteArray.ext (Array.toList_inj.1 h)
theorem jP {a b:Val} (h:a.same b=true):a=b:=by
 obtain ⟨h1,h2,h3⟩:=(znC a b).1 h
 cases a;cases b
 simp only at h1 h2 h3
 rw [h1,h2,zoP h3]
theorem znz:∀ l m:List Val,xh m l = - xh l m
 | [],[]=>rfl
 | [],_ :: _=>rfl
 | _ :: _,[]=>rfl
 | a :: l,b :: m=>by
  have h:=znz l m
  have h1:=zny a b
  rw [xh,xh,h]
  by_cases h0:a.cmp b=0
  ·rw [if_neg (by omega),if_neg (by omega)]
  ·rw [if_pos (by omega),if_pos (by omega)];exact h1
theorem znH:∀ l m:List Val,xh l m=0 → l=m
 | [],[],_=>rfl
 | [],_ :: _,h=>by simp [xh] at h
 | _ :: _,[],h=>by simp [xh] at h
 | a :: l,b :: m,h=>by
  rw [xh] at h
  by_cases h0:a.cmp b=0
  ·rw [if_neg (by omega)] at h
   rw [jP ((znX a b).1 h0),znH l m h]
  ·rw [if_pos (by omega)] at h
   exact absurd h h0
theorem znF:∀ c b a:List Val,0 ≤ xh b a → 0 ≤ xh c b → 0 ≤ xh c a
 | [],[],a,h,_=>h
 | [],_ :: _,a,_,g=>by simp [xh] at g
 | z :: c,[],[],_,_=>by simp [xh]
 | z :: c,[],x :: a,h,_=>by simp [xh] at h
 | z :: c,y :: b,[],_,_=>by simp [xh]
 | z :: c,y :: b,x :: a,h,g=>by
  have ih:=znF c b a
  obtain ⟨t1,t2,t3,t4⟩:=zoH z y x
  rw [xh] at h g ⊢
  by_cases h0:y.cmp x=0
  ·have e:=t4 h0
   rw [if_neg (by omega)] at h
   by_cases g0:z.cmp y=0
   ·rw [if_neg (by omega)] at g ⊢
    exact ih h g
   ·rw [if_pos (by omega)] at g ⊢
    omega
  ·rw [if_pos (by omega)] at h
   by_cases g0:z.cmp y=0
   ·have e:=t3 g0
    rw [if_pos (by omega)];omega
   ·rw [if_pos (by omega)] at g
    have:=t2 (by omega) (by omega)
    rw [if_pos (by omega)];omega
def leR (x y:List Val):Bool:=!decide (xh y x < 0)
def msF:Nat → List (List Val) → List (List Val)
 | 0,l=>l
 | k + 1,l=>if l.length < 2 then l else List.merge (msF k (l.take (l.length / 2))) (msF k (l.drop (l.length / 2))) leR
theorem znE:∀ (k:Nat) (l:List (List Val)),(msF k l).Perm l
 | 0,l=>List.Perm.refl _
 | k + 1,l=>by
  rw [msF]
  split
  ·exact List.Perm.refl _
  ·refine (List.merge_perm_append leR).trans ?_
   have:=(znE k (l.take (l.length / 2))).append (znE k (l.drop (l.length / 2)))
   rwa [List.take_append_drop] at this
theorem znB:∀ (k:Nat) (l:List (List Val)),l.length ≤ k + 1 → (msF k l).Pairwise fun a b=>leR a b=true
 | 0,l,h=>by
  match l,h with
  | [],_=>exact List.Pairwise.nil
  | [x],_=>exact List.pairwise_singleton _ _
 | k + 1,l,h=>by
  rw [msF]
  split
  ·match l with
   | []=>exact List.Pairwise.nil
   | [x]=>exact List.pairwise_singleton _ _
   | x :: y :: l=>rename_i h2;simp only [List.length_cons] at h2;omega
  ·refine List.pairwise_merge (fun a b c g1 g2=>?_) (fun a b=>?_) _ _ (znB k _ (by rw [List.length_take];omega)) (znB k _ (by rw [List.length_drop];omega))
   ·simp only [leR,Bool.not_eq_true',decide_eq_false_iff_not,Int.not_lt] at *
    exact znF c b a g1 g2
   ·simp only [leR,Bool.or_eq_true,Bool.not_eq_true',decide_eq_false_iff_not,Int.not_lt]
    have:=znz a b
    omega
theorem zoI {a b:List (List Val)} (h:a.Perm b):msF a.length a=msF b.length b:=by
 refine List.Perm.eq_of_pairwise (le:=fun a b=>leR a b=true) (fun x y _ _ g1 g2=>?_) (znB _ a (by omega)) (znB _ b (by omega)) (((znE _ a).trans h).trans (znE _ b).symm)
 simp only [leR,Bool.not_eq_true',decide_eq_false_iff_not,Int.not_lt] at g1 g2
 have:=znz x y
 exact znH x y (by omega)
theorem znJ:∀ (k j:Nat) (l:List (List Val)),l.length ≤ k + 1 → l.length ≤ j + 1 → msF k l=msF j l
 | 0,0,l,_,_=>rfl
 | 0,j + 1,l,h,_=>by rw [msF,msF,if_pos (by omega)]
 | k + 1,0,l,_,h=>by rw [msF,msF,if_pos (by omega)]
 | k + 1,j + 1,l,h,g=>by
  rw [msF,msF]
  split
  ·rfl
  ·rw [znJ k j _ (by rw [List.length_take];omega) (by rw [List.length_take];omega),znJ k j (l.drop _) (by rw [List.length_drop];omega) (by rw [List.length_drop];omega)]
theorem znU (l:List (List Val)) (k:Nat):(msF k l).length=l.length:=(znE k l).length_eq
theorem znT:∀ (k:Nat) (l:List (List Val)),l.length ≤ k → l.length ≤ 10000 → Good Tryz.prog 60 [.c (qD l)] [] (.c (qD (msF l.length l))) []:=by
 intro k
 induction k with
 | zero =>
  intro l hk hl
  obtain rfl:l=[]:=List.eq_nil_of_length_eq_zero (by omega)
  refine Good.zg TT 4000 Tryz.func60 rfl rfl ?_
  unfold Tryz.f60
  simp only [go_sem,qD,go_sem_proc]
  first | done | exact Le.refl _ | trace_state
 | succ k ih =>
  intro l hk hl
  obtain ⟨Z,hZ⟩:∃ Z,Z=msF l.length l:=⟨_,rfl⟩
  have hZl:Z.length=l.length:=by rw [hZ,znU]
  have hal1:∀ x:List (List Val),(x.map fun r=>[qk r]).all (fun y=>y.length == 1)=true:=fun x=>List.all_eq_true.2 fun y hy=>by
   obtain ⟨z,_,rfl⟩:=List.mem_map.1 hy
   rfl
  have hb24:l.length * 24 ≤ 140737488355328:=by omega
  rcases Nat.lt_or_ge l.length 2 with h2 | h2
  ·have g1:((l.length:Int) < 2)=True:=by simp;omega
   have hZe:Z=l:=by
    rw [hZ]
    cases hh:l.length with
    | zero=>rfl
    | succ n=>rw [msF,if_pos h2]
   rw [← hZ,hZe]
   have hk5:List.take l.length (l.map fun r=>[qk r])=l.map fun r=>[qk r]:=List.take_of_length_le (by simp)
   simp only [qk] at hal1 hk5
   refine Good.zg TT 4000 Tryz.func60 rfl rfl ?_
   unfold Tryz.f60
   simp only [go_sem,qD,List.length_map,g1,hal1,hb24,hk5,Nat.zero_add,Nat.le_refl,go_sem_proc]
  ·have g1:((l.length:Int) < 2)=False:=by simp;omega
   obtain ⟨h,hh⟩:∃ h,h=l.length / 2:=⟨_,rfl⟩
   have hq:IntKind.i64.wrap ((l.length:Int).tdiv 2)=(h:Int):=by
    rw [Int.tdiv_eq_ediv_of_nonneg (by omega),qd (by omega) (by omega)];omega
   have i1:=ih (l.take h) (by rw [List.length_take];omega) (by rw [List.length_take];omega)
   have i2:=ih (l.drop h) (by rw [List.length_drop];omega) (by rw [List.length_drop];omega)
   have hZm:Z=List.merge (msF (l.take h).length (l.take h)) (msF (l.drop h).length (l.drop h)) leR:=by
    obtain ⟨n,hn⟩:∃ n,l.length=n + 1:=⟨l.length - 1,by omega⟩
    rw [hZ,hn,msF,if_neg (by omega),← hh,znJ n (l.take h).length (l.take h) (by rw [List.length_take];omega) (by omega),znJ n (l.drop h).length (l.drop h) (by rw [List.length_drop];omega) (by omega)]
   have hal:(msF (l.take h).length (l.take h)).length + (msF (l.drop h).length (l.drop h)).length=l.length:=by
    rw [znU,znU,List.length_take,List.length_drop];omega
   have hhl:h ≤ l.length:=by omega
   have hdk:List.take (l.length - h) (List.drop h l)=List.drop h l:=List.take_of_length_le (by simp)
   have hkr:h + (l.length - h) ≤ l.length:=by omega
   rw [← hZ]
   generalize msF (l.take h).length (l.take h)=a at *
   generalize msF (l.drop h).length (l.drop h)=b at *
   refine Good.zg TT 4000 Tryz.func60 rfl rfl ?_
   unfold Tryz.f60
   simp only [go_sem,qD,List.length_map,g1,hq,hhl,Nat.zero_add,Nat.sub_zero,go_sem_proc]
   refine Cl.pure TT 4000 i1 (by simp only [go_sem,qD,List.map_take,go_sem_proc]) rfl ?_
   simp only [go_sem,qD,List.length_map,hq,hhl,Nat.zero_add,Nat.sub_zero,hkr,go_sem_proc]
   refine Cl.pure TT 4000 i2 (by simp only [go_sem,qD,← List.map_drop,← List.map_take,hdk,List.take_length,go_sem_proc]) rfl ?_
   simp only [go_sem,qD,go_sem_proc]
   refine Lp.atP TT 4000 0 (Nat.le_of_ble_eq_true rfl) [false,false,false,true,true,true,false,false,false,false,false,false,false,false,false,false,false,false,false,false,false,false,false,true,true,true,true,true,true,true,true,true,true,true,true,true,true,true,true,true,true,true,true,true,true,true,true,true,true,true,true,true,true,true,true] (fun s:List (List Val) × List (List Val) × List (List Val)=>s.1.length + s.2.1.length) (fun s=>Z=s.2.2 ++ List.merge s.1 s.2.1 leR ∧ s.1.length + s.2.1.length + s.2.2.length=l.length) (fun s=>[(2,.dead),(3,.c (qD s.1)),(4,.c (qD s.2.1)),(5,.sl 0 0 s.2.2.length)]) (fun s=>[.rows 1 47 (s.2.2.map qH)]) [1] ((a,b,[])) (⟨by simpa using hZm,by simpa using hal⟩) ?_ ?_
   ·simp only [go_sem,go_sem_proc]
    first | done | rfl | trace_state
   ·rintro ⟨A,B,O⟩ ⟨k1,k2⟩
    simp only at k1 k2
    have hal1:∀ x:List (List Val),(x.map qH).all (fun y=>y.length == 1)=true:=fun x=>List.all_eq_true.2 fun y hy=>by
     obtain ⟨z,_,rfl⟩:=List.mem_map.1 hy
     rfl
    have hb24:(O.length + 1) * 24 ≤ 140737488355328:=by omega
    have hfin:Z=O ++ (A ++ B) → (O.length + A.length) * 24 ≤ 140737488355328 ∧ (O.length + A.length + B.length) * 24 ≤ 140737488355328 ∧ O.length + A.length + B.length ≤ Z.length ∧ List.map qH O ++ List.map qH A ++ List.map qH B=List.map qH Z ∧ List.take (O.length + A.length + B.length) (List.map qH Z)=List.map qH Z:=fun h=>by
     refine ⟨by omega,by omega,by rw [h];simp only [List.length_append];omega,by rw [h,List.map_append,List.map_append,List.append_assoc],List.take_of_length_le (by rw [List.length_map,h];simp only [List.length_append];omega)⟩
    have hrc:∀ x:List (List Val),(List.map (fun r=>[CV.lst 3 false (List.map Val.cs r)]) x)=List.map qH x:=fun x=>rfl
    have hAe:A.length=0 → A=[]:=List.eq_nil_of_length_eq_zero
    have hBe:B.length=0 → B=[]:=List.eq_nil_of_length_eq_zero
    rcases Nat.eq_zero_or_pos A.length with ha | ha
    ·have g2:((0:Int) < (A.length:Int))=False:=by simp [ha]
     have hz:=hfin (by rw [k1,hAe ha,List.nil_merge,List.nil_append])
     obtain ⟨z1,z2,z3,z4,z5⟩:=hz
     simp only [go_sem,qD,List.length_map,g2,hrc,hal1,z1,z2,z3,z4,z5,Nat.zero_add,go_sem_proc]
     simp only [List.length_append,List.length_map]
    ·have g2:((0:Int) < (A.length:Int))=True:=by simp;omega
     rcases Nat.eq_zero_or_pos B.length with hb | hb
     ·have g3:((0:Int) < (B.length:Int))=False:=by simp [hb]
      have hz:=hfin (by rw [k1,hBe hb,List.merge_right,List.append_nil])
      obtain ⟨z1,z2,z3,z4,z5⟩:=hz
      simp only [go_sem,qD,List.length_map,g2,g3,hrc,hal1,z1,z2,z3,z4,z5,Nat.zero_add,go_sem_proc]
      simp only [List.length_append,List.length_map]
     ·have g3:((0:Int) < (B.length:Int))=True:=by simp;omega
      obtain ⟨x,hx,_,_,hxd⟩:=vj (l:=A) (j:=0) ha
      obtain ⟨y,hy,_,_,hyd⟩:=vj (l:=B) (j:=0) hb
      rw [List.drop_zero] at hxd hyd
      have k3:List.merge A B leR=if leR x y then x :: List.merge (A.drop 1) B leR else y :: List.merge A (B.drop 1) leR:=by
       conv=>lhs;rw [hxd,hyd,List.cons_merge_cons]
       rw [← hxd,← hyd]
      simp only [go_sem,qD,List.length_map,g2,g3,go_sem_proc]
      refine Dr.of TT (by kernel_rfl) [(32,[.c (qk y),.c (qk x)],cI (xh y x))] ⟨⟨KY y x,rfl⟩,trivial⟩ ?_
      have k4:leR x y = !decide (xh y x < 0):=rfl
      rw [k4] at k3
      generalize xh y x=o at k3 ⊢
      clear k4 hfin hxd hyd
      simp only [go_sem,qD,List.length_map,hx,hy,ha,hb,go_sem_proc]
      refine ⟨by omega,by omega,jy.of TT 4000 (qn rfl) ?_⟩
      have hd:∀ x:List (List Val),List.take (x.length - 1) (List.drop 1 x)=List.drop 1 x:=fun x=>List.take_of_length_le (by simp)
      have hO:∀ z:List Val,List.map qH O ++ [[CV.lst 3 false (List.map Val.cs z)]]=List.map qH (O ++ [z]):=fun z=>by rw [List.map_append];rfl
      by_cases ho:o < 0
      ·have ho1:(o < 0)=True:=eq_true ho
       rw [decide_eq_true ho,if_neg (by simp)] at k3
       have h1b:1 ≤ B.length:=hb
       simp only [go_sem,ho1,qD,List.length_map,hy,hb,hal1,hb24,Nat.zero_add,hO,h1b,Nat.le_refl,← List.map_drop,← List.map_take,List.take_length,hd,go_sem_proc]
       exact ⟨by omega,by omega,(A,B.drop 1,O ++ [y]),[2],by simp only [List.length_drop];omega,⟨by simp only;rw [k1,k3,List.append_assoc];rfl,by simp only [List.length_drop,List.length_append,List.length_singleton];omega⟩,by kernel_rfl,⟨zq.of_eq rfl,zq.of_eq rfl,zq.of_eq (congrArg (AV.sl 0 0) (by simp))⟩,rfl⟩
      ·have ho1:(o < 0)=False:=eq_false ho
       rw [decide_eq_false ho,if_pos (by simp)] at k3
       have h1a:1 ≤ A.length:=ha
       simp only [go_sem,ho1,qD,List.length_map,hx,ha,hal1,hb24,Nat.zero_add,hO,h1a,Nat.le_refl,← List.map_drop,← List.map_take,List.take_length,hd,go_sem_proc]
       exact ⟨by omega,by omega,(A.drop 1,B,O ++ [x]),[2],by simp only [List.length_drop];omega,⟨by simp only;rw [k1,k3,List.append_assoc];rfl,by simp only [List.length_drop,List.length_append,List.length_singleton];omega⟩,by kernel_rfl,⟨zq.of_eq rfl,zq.of_eq rfl,zq.of_eq (congrArg (AV.sl 0 0) (by simp))⟩,rfl⟩
theorem znN (a b:List (List Val)) (h:a.Perm b) (hl:b.length ≤ 10000):Good Tryz.prog 24 [.c (qD a),.c (qD b)] [] (cB true) []:=by
 have ha:=znT a.length a (Nat.le_refl _) (by rw [h.length_eq];exact hl)
 have hb:=znT b.length b (Nat.le_refl _) hl
 rw [zoI h] at ha
 have hs:=JU (msF b.length b) (by rw [znU];omega)
 refine Good.zg TT 4000 Tryz.func24 rfl rfl ?_
 unfold Tryz.f24
 simp only [go_sem,go_sem_proc]
 refine Cl.pure TT 4000 ha rfl rfl ?_
 simp only [go_sem,go_sem_proc]
 refine Cl.pure TT 4000 hb rfl rfl ?_
 simp only [go_sem,go_sem_proc]
 refine Cl.pure TT 4000 hs rfl rfl ?_
 simp only [go_sem,go_sem_proc]
 first | done | exact Le.refl _
end Go.Ev
end
section
open Go Go.Proofs Go.RowKit
namespace Go.Ev
theorem zoy (n:Nat) (hn:n ≤ 1000000):Good Tryz.prog 91 [.c .nl,cI n] [] (.sl 0 0 0) [.rows 1 47 (List.replicate n [.nl])]:=by
 by_cases h0:n=0
 ·subst h0
  have:Good Tryz.prog 91 [.c .nl,cI 0] [] (.c .nl) []:=by
   refine Good.zg TT 4000 Tryz.func91 rfl rfl ?_
   unfold Tryz.f91
   have hw:IntKind.wrap .i64 0=0:=qd (by omega) (by omega)
   simp only [go_sem,hw,Int.sub_self,Int.sub_zero,Int.lt_irrefl,gt_iff_lt,go_sem_proc]
   first | done | exact Le.refl _
  exact this.zlO 1 47
 ·have hw0:IntKind.wrap .i64 (0 - 0)=0:=qd (by omega) (by omega)
  have hw1:IntKind.wrap .i64 ((n:Int) - 0)=n:=by rw [Int.sub_zero];exact qd (by omega) (by omega)
  have c1:((n:Int) < 0)=False:=eq_false (by omega)
  have c2:((0:Int) < (n:Int))=True:=eq_true (by omega)
  have c3:n * 24 ≤ 140737488355328:=by omega
  refine Good.zlk TT 4000 [1] Tryz.func91 rfl rfl ?_
  unfold Tryz.f91
  have hwz:IntKind.wrap .i64 0=0:=qd (by omega) (by omega)
  rw [Int.sub_zero] at hw1
  simp only [go_sem,hwz,Int.sub_self,Int.sub_zero,hw1,c1,c2,c3,Int.toNat_natCast,gt_iff_lt,go_sem_proc]
  exact ⟨rfl,rfl⟩
def znQ (l:List (List (List Val))):Nat:=(l.map List.length).sum
theorem zn4 {l:List (List (List Val))} {j:Nat} {x:List (List Val)} (ht:l.take (j + 1)=l.take j ++ [x]):znQ (l.take (j + 1))=znQ (l.take j) + x.length:=by
 unfold znQ;rw [ht];simp
theorem zob:∀ (l:List (List (List Val))) (j:Nat),znQ (l.take j) ≤ znQ l
 | [],j=>by simp
 | a :: l,0=>by simp [znQ]
 | a :: l,j + 1=>by have:=zob l j;unfold znQ at this ⊢;simp only [List.take_succ_cons,List.map_cons,List.sum_cons];omega
theorem znM (l:List (List (List Val))):l.flatten.length=znQ l:=by unfold znQ;rw [List.length_flatten]
theorem zn8 (l:List (List (List Val))) (hl:l.length ≤ 1000000) (hn:znQ l ≤ 1000000):Good Tryz.prog 61 [.c (.lst 1 false (l.map fun x=>[qD x]))] [] (.c (qD l.flatten)) []:=by
 refine Good.zg TT 4000 Tryz.func61 rfl rfl ?_
 unfold Tryz.f61
 simp only [go_sem,qD,List.length_map,go_sem_proc]
 refine Lp.at TT 4000 1 (Nat.le_of_ble_eq_true rfl) [false,false,false,true,false,true,false,false,false,false,false,true,true,true,true,true,true,true,true,true,true,true,true] (fun j:Nat=>l.length - j) (fun j=>j ≤ l.length) (fun j=>[(3,cI (znQ (l.take j))),(11,cI j)]) (fun _=>[]) (0) (Nat.zero_le _) ?_ ?_
 ·simp only [go_sem,go_sem_proc]
  first | done | exact zq.of_eq rfl
 ·rintro j i1
  rcases Nat.lt_or_ge j l.length with hlt | hge
  ·obtain ⟨x,hx,hm,ht,hd⟩:=vj hlt
   have hw:=zh (j:=j) (by omega)
   have hs:=zn4 ht
   have hsl:=zob l (j + 1)
   have hw2:IntKind.wrap .i64 ((znQ (l.take j):Int) + (x.length:Int))=((znQ (l.take (j + 1)):Nat):Int):=by rw [qd (by omega) (by omega),hs];rfl
   have c1:(((znQ (l.take (j + 1)):Nat):Int) < 0)=False:=eq_false (by omega)
   simp only [go_sem,hlt,hx,hw,hw2,c1,List.length_map,go_sem_proc]
   exact ⟨j + 1,by omega,by omega,zq.of_eq rfl,zq.of_eq rfl⟩
  ·have:j=l.length:=by omega
   subst this
   simp only [go_sem,Nat.lt_irrefl,List.take_length,go_sem_proc]
   refine Cl.frame TT 4000 [] (zoy (znQ l) hn) rfl (by simp only [go_sem,go_sem_proc]) rfl (Nat.zero_le _) ?_
   simp only [go_sem,go_sem_proc]
   refine Lp.j5 1 0 ?_
   simp only [go_sem,j5,go_sem_proc]
   refine Lp.atP TT 4000 1 (Nat.le_of_ble_eq_true rfl) [false,false,false,false,false,false,true,false,true,false,false,false,false,false,false,false,false,false,false,false,false,false,false,false,false,false,false,true,true,true,true,true,true,true,true] (fun j:Nat=>l.length - j) (fun j=>j ≤ l.length) (fun j=>[(24,.dead),(6,.sl 1 0 (znQ (l.take j))),(27,cI j)]) (fun j=>[.rows 1 47 ((l.take j).flatten.map qH)]) [1] (0) (Nat.zero_le _) ?_ ?_
   ·simp only [go_sem,go_sem_proc]
    exact ⟨rfl,zq.of_eq rfl,rfl⟩
   ·rintro j k1
    rcases Nat.lt_or_ge j l.length with hlt | hge
    ·obtain ⟨x,hx,hm,ht,hd⟩:=vj hlt
     have hw:=zh (j:=j) (by omega)
     have hs:=zn4 ht
     have hsl:=zob l (j + 1)
     have hfl:(l.take j).flatten.length=znQ (l.take j):=znM _
     have hal1:∀ x:List (List Val),(x.map qH).all (fun y=>y.length == 1)=true:=fun x=>List.all_eq_true.2 fun y hy=>by
      obtain ⟨z,_,rfl⟩:=List.mem_map.1 hy
      rfl
     have hrc:(fun r:List Val=>[CV.lst 3 false (r.map Val.cs)])=qH:=rfl
     have hsz:(znQ (l.take j) + x.length) * 24 ≤ 140737488355328:=by omega
     have hnx:(l.take j).flatten.map qH ++ x.map qH=(l.take (j + 1)).flatten.map qH:=by rw [ht,List.flatten_append,List.map_append];simp
     simp only [go_sem,hlt,hx,hw,hfl,hrc,hal1,hsz,List.length_map,Nat.zero_add,hnx,go_sem_proc]
     exact ⟨j + 1,[2],by omega,by omega,rfl,⟨zq.of_eq (by rw [hs];rfl),zq.of_eq rfl⟩,rfl⟩
    ·have:j=l.length:=by omega
     subst this
     have hk:List.take (znQ l) (List.map qH l.flatten)=List.map qH l.flatten:=List.take_of_length_le (by rw [List.length_map,znM];exact Nat.le_refl _)
     simp only [go_sem,Nat.lt_irrefl,List.length_map,znM,Nat.zero_add,Nat.le_refl,List.take_length,hk,qk,go_sem_proc]
     first | done | exact Le.refl _
abbrev zoS:ByteArray:=⟨#[117,110,105,111,110,97,108,108]⟩
theorem zoL (a b:List (List Val)) (h:a.length + b.length ≤ 1000000):Good Tryz.prog 28 [cS zoS,.c (qD a),.c (qD b)] [] (.tup [.c (qD (a ++ b)),cI 0]) []:=by
 have hc:=zn8 [a,b] (by simp) (by simp [znQ];omega)
 rw [show [a,b].flatten=a ++ b by simp] at hc
 simp only [List.map_cons,List.map_nil] at hc
 have h1:(zoS.toList == zoS.toList)=true:=by decide +kernel
 refine Good.zg TT 4000 Tryz.func28 rfl rfl ?_
 unfold Tryz.f28
 simp only [go_sem,h1,go_sem_proc]
 refine Cl.pure TT 4000 hc rfl rfl ?_
 simp only [go_sem,go_sem_proc]
 first | done | exact Le.refl _
end Go.Ev
end
