import Derived.Test.YtifdakibkadfiaaGreatDoorMe4
import Derived.Test.YtifdakibkadfiaaGreatDoorMg6
set_option linter.all false
set_option maxRecDepth 100000
set_option maxHeartbeats 8000000
section
open Go Go.Proofs Go.RowKit
namespace Go.Ev
open Go.Proofs.YtifdakibkadfiaaGreatDoor (GV zx VS zY kD)
def toG (v:Val):GV:=⟨v.k,v.i,v.s⟩
def ofG (v:GV):Val:=⟨v.k,v.i,v.s⟩
theorem yd (v:Val):(toG v).ok=v.ok:=by
 unfold toG GV.ok Val.ok
 have h:v.s.toList.isEmpty=(v.s.size == 0):=by
  rw [Go.ByteArray.toList_eq]
  have:v.s.size=v.s.data.toList.length:=rfl
  rw [this]
  cases v.s.data.toList <;> simp
 simp only [h]
theorem yb {w:World} {N:Nat → Prop} {ρ:Nat → Pl} {v:Val} {x:Value} (h:zo w N ρ v.av x):x=(toG v).val:=by
 unfold Val.av at h
 cases h with
 | agg _ vs hl hr =>
  obtain ⟨a,b,c,rfl⟩:∃ a b c,vs=[a,b,c]:=by match vs,hl with | [a,b,c],_=>exact ⟨a,b,c,rfl⟩
  have h0:=hr 0 (by simp) (by simp)
  have h1:=hr 1 (by simp) (by simp)
  have h2:=hr 2 (by simp) (by simp)
  simp only [List.getElem_cons_zero,List.getElem_cons_succ] at h0 h1 h2
  rw [h0.int_eq,h1.int_eq,h2.vH]
  rfl
theorem zlD (w:World) (N:Nat → Prop) (ρ:Nat → Pl) (v:GV):zo w N ρ (ofG v).av v.val:=by
 refine .agg _ [.int .i64 v.k,.int .i64 v.i,.string v.s] rfl fun i a b=>?_
 match i,a,b with
 | 0,_,_=>exact .c (.int _ _)
 | 1,_,_=>exact .c (.int _ _)
 | 2,_,_=>exact .c (.str _)
theorem Jz {w:World} {N:Nat → Prop} {ρ:Nat → Pl} {s:ByteArray} {x:Value} (h:zo w N ρ (cS s) x):x = .string s:=by
 cases h with | c h=>cases h;rfl
theorem ziZ (w:World) (N:Nat → Prop) (ρ:Nat → Pl) (r:GV × Int):zo w N ρ (qY (ofG r.1) r.2) (.tuple #[r.1.val,.int .i64 r.2]):=by
 refine .tup _ [r.1.val,.int .i64 r.2] rfl fun i a b=>?_
 match i,a,b with
 | 0,_,_=>exact zlD w N ρ r.1
 | 1,_,_=>exact .c (.int _ _)
theorem Good.zkG {P:Program} {f:FuncId} {args:List AV} {r:GV × Int} (hen:∀ (args:Array Value) (w:World),(callFunc f args).run P w = .ok (.enter f args) w)
  (hc:∀ (w:World) (N:Nat → Prop) (ρ:Nat → Pl) (vs:List Value),zw N [] ρ w → args.length=vs.length → (∀ (i:Nat) (h1:i < args.length) (h2:i < vs.length),zo w N ρ args[i] vs[i]) → Calls P f vs.toArray w (zx (.tuple #[r.1.val,.int .i64 r.2]) w)):Good P f args [] (qY (ofG r.1) r.2) []:=by
 intro w N ρ vs H hs hl hr
 refine .inl ⟨hen _ _,(hc w N ρ vs H hl hr).mono ?_⟩
 rintro e w' ⟨rfl,hbel⟩
 obtain ⟨H',K'⟩:=H.made ⟨hbel.os,hbel.tape,hbel.output,hbel.size,fun b hb=>hbel.block b hb⟩
 exact ⟨_,rfl,⟨⟨N,ρ,H',ziZ _ _ _ r,K',rfl⟩⟩⟩
theorem jI (op:ByteArray) (a b:Val) (ha:I64 a.i) (hb:I64 b.i):∃ r:GV × Int,Good Tryz.prog 78 [cS op,a.av,b.av] [] (qY (ofG r.1) r.2) [] ∧ kD [toG a,toG b] r:=
 ⟨_,Good.zkG (r:=Go.Proofs.YtifdakibkadfiaaGreatDoor.k9 op.toList (toG a) (toG b)) (enters_of Tryz.func78 (by kernel_rfl) rfl) (fun w N ρ vs H hl hr=>by
  obtain ⟨x,y,z,rfl⟩:∃ x y z,vs=[x,y,z]:=by match vs,hl with | [x,y,z],_=>exact ⟨x,y,z,rfl⟩
  have h0:=Jz (hr 0 (by simp) (by simp))
  have h1:=yb (hr 1 (by simp) (by simp))
  have h2:=yb (hr 2 (by simp) (by simp))
  simp only [List.getElem_cons_zero,List.getElem_cons_succ] at h0 h1 h2
  subst h0 h1 h2
  exact Go.Proofs.YtifdakibkadfiaaGreatDoor.jI op (toG a) (toG b) w ha hb),Go.Proofs.YtifdakibkadfiaaGreatDoor.j0 _ _ _ _ hb⟩
theorem xN (v:Val) (hv:I64 v.i):∃ r:GV × Int,Good Tryz.prog 133 [v.av] [] (qY (ofG r.1) r.2) [] ∧ kD [toG v] r:=
 ⟨_,Good.zkG (r:=Go.Proofs.YtifdakibkadfiaaGreatDoor.k9 [45] (GV.num 0) (toG v)) (enters_of Tryz.func133 (by kernel_rfl) rfl) (fun w N ρ vs H hl hr=>by
  obtain ⟨x,rfl⟩:∃ x,vs=[x]:=by match vs,hl with | [x],_=>exact ⟨x,rfl⟩
  have h0:=yb (hr 0 (by simp) (by simp))
  simp only [List.getElem_cons_zero] at h0
  subst h0
  exact Go.Proofs.YtifdakibkadfiaaGreatDoor.xN (toG v) w hv),Go.Proofs.YtifdakibkadfiaaGreatDoor.j0 _ _ _ _ hv⟩
theorem yq (a b:Val) (ha:I64 a.i) (hb:I64 b.i) (hs:a.s.size + b.s.size ≤ 9223372036854775807):∃ r:GV × Int,Good Tryz.prog 141 [a.av,b.av] [] (qY (ofG r.1) r.2) [] ∧ I64 r.1.i ∧ r.1.s.size ≤ a.s.size + b.s.size ∧ (r.2=0 → r.1.ok=true):=by
 refine ⟨Go.Proofs.YtifdakibkadfiaaGreatDoor.Xi (toG a) (toG b),Good.zkG (enters_of Tryz.func141 (by kernel_rfl) rfl) (fun w N ρ vs H hl hr=>by
  obtain ⟨x,y,rfl⟩:∃ x y,vs=[x,y]:=by match vs,hl with | [x,y],_=>exact ⟨x,y,rfl⟩
  have h0:=yb (hr 0 (by simp) (by simp))
  have h1:=yb (hr 1 (by simp) (by simp))
  simp only [List.getElem_cons_zero,List.getElem_cons_succ] at h0 h1
  subst h0 h1
  exact Go.Proofs.YtifdakibkadfiaaGreatDoor.yq (toG a) (toG b) w ha hb hs),?_⟩
 have none_f:∀ e:Int,I64 (GV.none,e).1.i ∧ (GV.none,e).1.s.size ≤ a.s.size + b.s.size ∧ ((GV.none,e).2=0 → (GV.none,e).1.ok=true):=fun e=>⟨by simp [GV.none,I64],by simp [GV.none];exact Nat.zero_le _,fun _=>by simp [GV.none,GV.ok]⟩
 unfold Go.Proofs.YtifdakibkadfiaaGreatDoor.Xi
 split
 ·exact none_f 1
 ·rename_i h1
  split
  ·exact none_f 20
  ·rename_i h2
   split
   ·exact none_f 0
   ·rename_i h3
    split
    ·exact none_f 20
    ·refine ⟨by simp [I64],by simp [toG,ByteArray.size_append],fun _=>?_⟩
     have ok:(toG a).ok=true:=by revert h1;cases (toG a).ok <;> simp
     have hk:=Go.Proofs.YtifdakibkadfiaaGreatDoor.QS ok
     unfold Go.Proofs.YtifdakibkadfiaaGreatDoor.vl at h2
     simp only [Bool.or_eq_true,beq_iff_eq,not_or] at h2 h3
     have:(toG a).k=3 ∨ (toG a).k=4:=by omega
     rcases this with h | h <;> rw [h] <;> simp [GV.ok]
theorem zbu {w:World} {N:Nat → Prop} {k:IntKind} {n:Int} {x:Value} (h:kX w N (.int k n) x):x = .int k n:=by cases h;rfl
theorem zje {w:World} {N:Nat → Prop} {s:ByteArray} {x:Value} (h:kX w N (.str s) x):x = .string s:=by cases h;rfl
theorem zkr {w:World} {N:Nat → Prop} {ρ:Nat → Pl} {l:List Val} {x:Value} (h:zo w N ρ (.c (qk l)) x) (hb:l.length ≤ 281474976710656):VS w x (l.map toG):=by
 unfold qk at h
 cases h with
 | c h =>
  cases h with
  | lst _ _ _ A c V hx hc hm hsz hcell hrep =>
   refine ⟨A,c,by simp,by simpa using hb,fun j y hy=>?_⟩
   rw [List.getElem?_map] at hy
   obtain ⟨v,hv,rfl⟩:=Option.map_eq_some_iff.1 hy
   obtain ⟨hj,hvj⟩:=List.getElem?_eq_some_iff.1 hv
   have hj':j < (l.map Val.cs).length:=by simpa using hj
   have hcs:(l.map Val.cs)[j]=v.cs:=by simp [hvj]
   obtain ⟨b,o,hA,_,h0⟩:=hcell j 0 hj' (by omega)
   obtain ⟨b1,o1,hA1,_,h1⟩:=hcell j 1 hj' (by omega)
   obtain ⟨b2,o2,hA2,_,h2⟩:=hcell j 2 hj' (by omega)
   rw [hA] at hA1 hA2
   cases hA1;cases hA2
   have r0:=hrep j 0 hj' (by rw [hcs];exact Nat.le_of_ble_eq_true rfl)
   have r1:=hrep j 1 hj' (by rw [hcs];exact Nat.le_of_ble_eq_true rfl)
   have r2:=hrep j 2 hj' (by rw [hcs];exact Nat.le_of_ble_eq_true rfl)
   simp only [hcs,Val.cs,List.getElem_cons_zero,List.getElem_cons_succ] at r0 r1 r2
   refine ⟨b,o,hA,?_,?_,?_⟩
   ·rw [Nat.add_zero] at h0;rw [h0,zbu r0];rfl
   ·rw [Nat.add_assoc,h1,zbu r1];rfl
   ·rw [Nat.add_assoc,h2,zje r2];rfl
theorem zcy {w:World} {N:Nat → Prop} (h:Qs w N):zY w:=by
 obtain ⟨_,m,hm⟩:=h.ints 0 (by simp [qo.ints])
 exact ⟨m,hm⟩
structure vk (k:Nat) (r:Val × Int):Prop where
 i64:I64 r.1.i
 size:r.1.s.size ≤ k
 ok:r.2=0 → r.1.ok=true
theorem vk.of {k:Nat} {l:List GV} {r:GV × Int} (h:kD l r) (hk:100000 ≤ k) (hl:∀ x,x ∈ l → x.s.size ≤ k):vk k (ofG r.1,r.2):=⟨h.i64,by
 rcases h.size with h1 | ⟨x,hx,h1⟩
 ·exact Nat.le_trans h1 hk
 ·exact Nat.le_trans h1 (hl x hx),fun e=>by rw [← yd];exact h.ok e⟩
def yT (a b:Val):Val × Int:=if a.k=0 ∨ b.k=0 then (zeroV,0) else if a.k ≠ 3 ∨ b.k ≠ 3 then (zeroV,20) else if (Ze a.s b.s).2=0 then (zZ (Ze a.s b.s).1,0) else (zeroV,(Ze a.s b.s).2)
theorem zd8 (a b:Val) (hs:a.s.size ≤ 1000000000):Good Tryz.prog 142 [a.av,b.av] [] (qY (yT a b).1 (yT a b).2) []:=by
 refine Good.zg TT 4000 Tryz.func142 rfl rfl ?_
 unfold Tryz.f142
 unfold yT
 by_cases a0:a.k=0
 ·have a0':(a.k == 0)=true:=by simp [a0]
  simp only [go_sem,a0',a0,go_sem_proc]
  exact Le.refl _
 have a0':(a.k == 0)=false:=by simp [a0]
 by_cases b0:b.k=0
 ·have b0':(b.k == 0)=true:=by simp [b0]
  simp only [go_sem,a0',a0,b0',b0,go_sem_proc]
  exact Le.refl _
 have b0':(b.k == 0)=false:=by simp [b0]
 by_cases a3:a.k=3
 case neg =>
  have a3':(a.k != 3)=true:=by simp [a3]
  simp only [go_sem,a0',a0,b0',b0,a3',a3,go_sem_proc]
  exact Le.refl _
 have a3':(a.k != 3)=false:=by simp [a3]
 by_cases b3:b.k=3
 case neg =>
  have b3':(b.k != 3)=true:=by simp [b3]
  simp only [go_sem,a0',a0,b0',b0,a3',b3',b3,go_sem_proc]
  exact Le.refl _
 have b3':(b.k != 3)=false:=by simp [b3]
 simp only [go_sem,a0',a0,b0',b0,a3',b3',b3,a3,go_sem_proc]
 refine Cl.pure TT 4000 (zgx a.s b.s hs) rfl rfl ?_
 by_cases h0:(Ze a.s b.s).2=0
 ·have h0':((Ze a.s b.s).2 != 0)=false:=by simp [h0]
  simp only [go_sem,h0',h0,go_sem_proc]
  refine Cl.pure TT 4000 (Qq _) rfl rfl ?_
  simp only [go_sem,go_sem_proc]
  exact Le.refl _
 ·have h0':((Ze a.s b.s).2 != 0)=true:=by simp [h0]
  simp only [go_sem,h0',h0,go_sem_proc]
  exact Le.refl _
end Go.Ev
end
section
open Go Go.Proofs Go.RowKit
namespace Go.Ev
open Go.Proofs.YtifdakibkadfiaaGreatDoor (GV zx VS zY kD)
def zjn (vs:List Val):Nat:=(vs.map fun v=>v.s.size).sum
theorem zbm {vs:List Val} {x:Val} (h:x ∈ vs):x.s.size ≤ zjn vs:=by
 unfold zjn
 induction vs with
 | nil=>cases h
 | cons a l ih =>
  simp only [List.map_cons,List.sum_cons]
  rcases List.mem_cons.1 h with rfl | h
  ·omega
  ·have:=ih h;omega
def zlr (op:ByteArray) (vs:List Val) (p:Val × Int):Prop:=
 (∃ (lo hi:Int) (fv:CV) (is:Bool),Good Tryz.prog 87 [cS op] [] (.tup [.agg [cI lo,cI hi,.c fv],cB is]) [] ∧ (is=false ∨ (vs.length:Int) < lo ∨ hi < (vs.length:Int)) ∧ p=(zeroV,1)) ∨
 (∃ (lo hi:Int) (g:FuncId) (caps:List CV),Good Tryz.prog 87 [cS op] [] (.tup [.agg [cI lo,cI hi,.c (.fn g caps)],cB true]) [] ∧ lo ≤ (vs.length:Int) ∧ (vs.length:Int) ≤ hi ∧ Good Tryz.prog g (.c (qk vs) :: caps.map opn) [] (qY p.1 p.2) [])
theorem qL (k:Nat) (e:Int):vk k (zeroV,e):=⟨by simp [zeroV,I64],by simp [zeroV];exact Nat.zero_le _,fun _=>rfl⟩
theorem j9 (k:Nat) (b:Bool):vk k (zZ b,0):=⟨by unfold zZ I64;split <;> simp,by simp [zZ];exact Nat.zero_le _,fun _=>by cases b <;> rfl⟩
theorem Q5 (d:Int) (k:Nat):∀ (l:List Val) (out:Val) (dec:Bool),vk k (out,0) → (∀ x,x ∈ l → vk k (x,0)) → vk k (lgL d l out dec)
 | [],out,dec,h,_=>h
 | v :: l,out,dec,h,hl=>by
  rw [lgL]
  split
  ·exact qL k 20
  ·split
   ·split
    ·exact Q5 d k l _ _ h fun x hx=>hl x (by simp [hx])
    ·exact Q5 d k l _ _ (qL k 0) fun x hx=>hl x (by simp [hx])
   ·split
    ·exact Q5 d k l _ _ (hl v (by simp)) fun x hx=>hl x (by simp [hx])
    ·exact Q5 d k l _ _ h fun x hx=>hl x (by simp [hx])
theorem y9 (d:Int) (k:Nat) (l:List Val) (hi:∀ x,x ∈ l → I64 x.i) (hs:∀ x,x ∈ l → x.s.size ≤ k):vk k (lgS d l):=by
 unfold lgS
 split
 ·rename_i h
  exact Q5 d k l _ _ (j9 k _) fun x hx=>⟨hi x hx,hs x hx,fun _=>List.all_eq_true.1 h x hx⟩
 ·exact qL k 1
theorem kz (op:ByteArray) (a b:Val) (k:Nat):vk k (qX op a b):=by
 unfold qX
 split
 ·exact qL k 1
 ·split
  ·exact qL k 1
  ·split
   ·exact qL k 0
   ·split
    ·exact j9 k _
    ·exact qL k 20
theorem ziM (v:Val) (k:Nat) (hi:I64 v.i) (hs:v.s.size ≤ k):vk k (zec v):=by
 have hf:=y9 0 k [v] (fun x hx=>by rw [List.mem_singleton.1 hx];exact hi) (fun x hx=>by rw [List.mem_singleton.1 hx];exact hs)
 unfold zec
 simp only
 split
 ·rename_i h
  obtain ⟨h1,h2⟩:=h
  have ok:=hf.ok h1
  have hb:((lgS 0 [v]).1.i=0 ∨ (lgS 0 [v]).1.i=1) ∧ (lgS 0 [v]).1.s.size=0:=by
   unfold Val.ok at ok
   simp only [h2] at ok
   simpa using ok
  have hw:IntKind.wrap .i64 (1 - (lgS 0 [v]).1.i)=1 - (lgS 0 [v]).1.i:=qd (by omega) (by omega)
  refine ⟨?_,hf.size,fun _=>?_⟩
  ·show I64 (IntKind.wrap .i64 _)
   rw [hw];unfold I64;omega
  ·unfold Val.ok
   simp only [hw]
   rcases hb.1 with h | h <;> simp [h,hb.2]
 ·exact hf
theorem zkA (v:Val) (l:List Val) (k:Nat):vk k (inS v l):=by
 unfold inS
 split
 ·exact qL k 1
 ·split
  ·rename_i h
   obtain ⟨h1,h2⟩:=zfP v l h
   have:∀ x,x ∈ (inL v l).2 → vk 0 (x,0):=fun x hx=>by
    obtain ⟨j,hj,rfl⟩:=List.getElem_of_mem hx
    have hj2:j < l.length:=by omega
    obtain ⟨h3,h4⟩:=h2 j l[j] (List.getElem?_eq_getElem hj2)
    rw [List.getElem?_eq_getElem hj] at h4
    have h5:=kz Zd v l[j] 0
    rw [Option.some.inj h4]
    exact ⟨h5.i64,h5.size,fun _=>h5.ok h3⟩
   have:=y9 1 0 (inL v l).2 (fun x hx=>(this x hx).i64) (fun x hx=>(this x hx).size)
   exact ⟨this.i64,Nat.le_trans this.size (Nat.zero_le _),this.ok⟩
  ·exact qL k _
theorem zdJ (a b:Val) (k:Nat):vk k (yT a b):=by
 unfold yT
 split
 ·exact qL k 0
 ·split
  ·exact qL k 20
  ·split
   ·exact j9 k _
   ·exact qL k _
theorem Xh (a b c:Val) (k:Nat):vk k (k6 a b c):=by
 unfold k6
 split
 ·rename_i h1
  split
  ·rename_i h2
   refine ⟨?_,?_,?_⟩
   all_goals
    have:=y9 0 k [(qX ⟨#[62,61]⟩ a b).1,(qX ⟨#[60,61]⟩ a c).1] (fun x hx=>by
     simp only [List.mem_cons,List.not_mem_nil,or_false] at hx
     rcases hx with rfl | rfl
     ·exact (kz _ a b k).i64
     ·exact (kz _ a c k).i64) (fun x hx=>by
     simp only [List.mem_cons,List.not_mem_nil,or_false] at hx
     rcases hx with rfl | rfl
     ·exact (kz _ a b k).size
     ·exact (kz _ a c k).size)
   ·exact this.i64
   ·exact this.size
   ·exact this.ok
  ·exact kz _ a c k
 ·exact kz _ a b k
end Go.Ev
end
section
open Go Go.Proofs Go.RowKit
namespace Go.Ev
theorem zif (r:List Val) (e:Expr) (h:(e.op.toList == wz.toList)=false) (h2:(e.op.toList == sAt.toList)=false) (hb:e.l.length ≤ 1000) (vs:List Val) (hn:vs.length=e.l.length) (k:Nat) (hk:k < e.l.length)
  (hp:∀ (j:Nat) x v,j < k → e.l[j]?=some x → vs[j]?=some v → xd r x v 0) {x:Expr} {w:Val} {f:Int} (hx:e.l[k]?=some x) (hf:f ≠ 0) (he:xd r x w f):xd r e zeroV f:=by
 have hf':(f != 0)=true:=by simp [hf]
 refine Good.zg TT 4000 Tryz.func57 rfl rfl ?_
 unfold Tryz.f57
 simp only [go_sem,h,h2,go_sem_proc]
 refine ⟨⟨by omega,by omega⟩,?_⟩
 refine Lp.at TT 4000 3 (Nat.le_of_ble_eq_true rfl) [false,false,false,false,false,true,false,true,true,true,true,false,false,false,false,false,false,false,false,false,false,false,false,false,false,false,false,false,false,false,false,false,false,false,false,false,false,false,false,false,false,false,false,false,false,false,false,true,true,true,true,true,true,true,true,true,true,true,true,true,true,true,true,true,true,true,true] (fun j:Nat=>e.l.length - j) (fun j=>j ≤ k) (fun j=>[(47,cI j)]) (fun j=>[(2,.rows 3 26 (ji vs e.l.length j))]) (0) (Nat.zero_le _) ?_ ?_
 ·simp only [go_sem,go_sem_proc]
  rw [show ji vs e.l.length 0=List.replicate e.l.length [.int .i64 0,.int .i64 0,.str ⟨#[]⟩] by simp [ji]]
 ·rintro j i1
  have hlt:j < e.l.length:=by omega
  obtain ⟨y,hy,hm,ht,hd⟩:=vj hlt
  have hw:=zh (j:=j) (by omega)
  have hv:=List.getElem?_eq_getElem (l:=vs) (i:=j) (by omega)
  generalize vs[j]'(by omega)=v at hv
  have hg:=yK hn hlt
  have hs:=Zf hn hlt hv
  simp only [go_sem,hlt,hy,go_sem_proc]
  rcases Nat.lt_or_ge j k with hj | hj
  ·(refine Cl.pure TT 4000 (hp j y v hj hy hv) rfl rfl ?_;simp only [go_sem,hlt,hw,hg,hs,Nat.zero_add,go_sem_proc])
   exact ⟨j + 1,by omega,by omega,by simp only [go_sem,go_sem_proc]⟩
  ·have:j=k:=by omega
   subst this
   rw [hx] at hy;cases hy
   (refine Cl.pure TT 4000 (he) rfl rfl ?_;simp only [go_sem,hf',go_sem_proc])
   exact Le.refl _
theorem ziO (r:List Val) (e:Expr) (h:(e.op.toList == wz.toList)=false) (h2:(e.op.toList == sAt.toList)=false) (h3:(e.op.toList == vS.toList)=false) (hb:e.l.length ≤ 1000) (vs:List Val) (hn:vs.length=e.l.length)
  (hp:∀ (j:Nat) x v,e.l[j]?=some x → vs[j]?=some v → xd r x v 0) {lo hi:Int} {fv:CV} {is:Bool}
  (W:Good Tryz.prog 87 [cS e.op] [] (.tup [.agg [cI lo,cI hi,.c fv],cB is]) []) (hbad:is=false ∨ (e.l.length:Int) < lo ∨ hi < (e.l.length:Int)):xd r e zeroV 1:=by
 refine Good.zg TT 4000 Tryz.func57 rfl rfl ?_
 unfold Tryz.f57
 simp only [go_sem,h,h2,go_sem_proc]
 refine ⟨⟨by omega,by omega⟩,?_⟩
 refine Lp.at TT 4000 3 (Nat.le_of_ble_eq_true rfl) [false,false,false,false,false,true,false,true,true,true,true,false,false,false,false,false,false,false,false,false,false,false,false,false,false,false,false,false,false,false,false,false,false,false,false,false,false,false,false,false,false,false,false,false,false,false,false,true,true,true,true,true,true,true,true,true,true,true,true,true,true,true,true,true,true,true,true] (fun j:Nat=>e.l.length - j) (fun j=>j ≤ e.l.length) (fun j=>[(47,cI j)]) (fun j=>[(2,.rows 3 26 (ji vs e.l.length j))]) (0) (Nat.zero_le _) ?_ ?_
 ·simp only [go_sem,go_sem_proc]
  rw [show ji vs e.l.length 0=List.replicate e.l.length [.int .i64 0,.int .i64 0,.str ⟨#[]⟩] by simp [ji]]
 ·rintro j i1
  rcases Nat.lt_or_ge j e.l.length with hlt | hge
  ·obtain ⟨x,hx,hm,ht,hd⟩:=vj hlt
   have hw:=zh (j:=j) (by omega)
   have hv:=List.getElem?_eq_getElem (l:=vs) (i:=j) (by omega)
   generalize vs[j]'(by omega)=v at hv
   have hg:=yK hn hlt
   have hs:=Zf hn hlt hv
   simp only [go_sem,hlt,hx,go_sem_proc]
   (refine Cl.pure TT 4000 (hp j x v hx hv) rfl rfl ?_;simp only [go_sem,hlt,hw,hg,hs,Nat.zero_add,go_sem_proc])
   exact ⟨j + 1,by omega,by omega,by simp only [go_sem,go_sem_proc]⟩
  ·have:j=e.l.length:=by omega
   subst this
   have hf:ji vs e.l.length e.l.length=vs.map Val.cs:=by simp [ji,← hn]
   simp only [go_sem,Nat.lt_irrefl,h3,hf,go_sem_proc]
   refine Cl.pure TT 4000 W rfl (by cases fv <;> rfl) ?_
   cases is
   ·simp only [go_sem,ite_self,go_sem_proc]
    exact Le.refl _
   ·by_cases q1:(e.l.length:Int) < lo
    ·simp only [go_sem,q1,ite_self,go_sem_proc]
     exact Le.refl _
    ·have q2:(e.l.length:Int) > hi:=by
      rcases hbad with h | h | h
      ·cases h
      ·exact absurd h q1
      ·exact h
     simp only [go_sem,q1,q2,ite_self,go_sem_proc]
     exact Le.refl _
def zem (k:Nat) (p:Val × Int):Prop:=I64 p.1.i ∧ p.1.s.size ≤ k
theorem vk.w {k:Nat} {p:Val × Int} (h:vk k p):zem k p:=⟨h.i64,h.size⟩
def znp (r r':List Val) (k:Nat) (e e':Expr):Prop:=∃ p:Val × Int,zem k p ∧ xd r e p.1 p.2 ∧ xd r' e' p.1 p.2
theorem zj7 {vs:List Val} {l:List Expr} {K:Expr → Nat} (hl:vs.length=l.length) (h:∀ (j:Nat) v x,vs[j]?=some v → l[j]?=some x → v.s.size ≤ K x):zjn vs ≤ (l.map K).sum:=by
 unfold zjn
 induction vs generalizing l with
 | nil=>simp
 | cons v vs ih =>
  cases l with
  | nil=>simp at hl
  | cons x l =>
   simp only [List.map_cons,List.sum_cons]
   have h0:=h 0 v x rfl rfl
   have:=ih (l:=l) (by simpa using hl) fun j v x hv hx=>h (j + 1) v x (by simpa using hv) (by simpa using hx)
   omega
end Go.Ev
end
