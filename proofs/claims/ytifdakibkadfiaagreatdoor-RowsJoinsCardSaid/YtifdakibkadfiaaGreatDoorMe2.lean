import Derived.Test.YtifdakibkadfiaaGreatDoorMe1
set_option linter.all false
set_option maxRecDepth 100000
set_option maxHeartbeats 8000000
section
open Go Go.Proofs
namespace Go.Ev
theorem Good.scoped {P:Program} {f:FuncId} {args:List AV} {h h':List zf} {r:AV} (G:AV.sc.scAll (born h) args=true → h.all (inB (born h))=true → Good P f args h r h'):Good P f args h r h':=fun w N ρ vs H hs hl hr=>by
 refine G hs ?_ w N ρ vs H hs hl hr
 refine List.all_eq_true.2 fun k hk=>?_
 obtain ⟨i,hi,rfl⟩:=List.getElem_of_mem hk
 exact H.scope i _ (List.getElem?_eq_getElem hi)
def idxOf (p:Val → Bool) (l:List Val):Int:=match l.findIdx? p with | some i=>i | none=>-1
theorem idxOf_hit {p:Val → Bool} {l:List Val} {j:Nat} {x:Val} (hx:l[j]?=some x) (hp:p x=true) (hn:(l.take j).any p=false):idxOf p l=j:=by
 have hj:=(List.getElem?_eq_some_iff.1 hx).1
 have:l.findIdx? p=some j:=by
  rw [List.findIdx?_eq_some_iff_getElem]
  refine ⟨hj,?_,fun i hi=>?_⟩
  ·rw [(List.getElem?_eq_some_iff.1 hx).2];exact hp
  ·have:=List.any_eq_false.1 hn (l[i]'(by omega)) (List.mem_iff_getElem.2 ⟨i,by simp;omega,by simp⟩)
   simpa using this
 unfold idxOf;rw [this]
theorem xP {p:Val → Bool} {l:List Val} (hn:l.any p=false):idxOf p l = -1:=by
 have:l.findIdx? p=none:=by
  rw [List.findIdx?_eq_none_iff]
  intro x hx
  have:=List.any_eq_false.1 hn x hx
  simpa using this
 unfold idxOf;rw [this]
theorem KG (p:Val → Bool) (l:List Val):decide (idxOf p l ≥ 0)=l.any p:=by
 cases h:l.any p with
 | false=>rw [xP h];rfl
 | true =>
  unfold idxOf
  cases hf:l.findIdx? p with
  | some i=>simp only [decide_eq_true_eq];omega
  | none =>
   rw [List.findIdx?_eq_none_iff] at hf
   obtain ⟨x,hx,hp⟩:=List.any_eq_true.1 h
   rw [hf x hx] at hp;cases hp
theorem VF (h:List zf) (g:FuncId) (caps:List AV) (v:AV) (hv:zfL v=some (g,caps)) (p:Val → Bool) (l:List Val) (hp:∀ x,x ∈ l → Good Tryz.prog g (x.av :: caps) h (cB (p x)) h) :
  Good Tryz.prog 125 [.c (qk l),v] h (cI (idxOf p l)) h:=by
 refine Good.bound (xs:=l.map Val.cs) (List.mem_cons_self ..) fun hl=>Good.scoped fun hsc hin=>?_
 simp only [AV.sc.scAll,Bool.and_true,Bool.and_eq_true] at hsc
 have hvs:=hsc.2
 have hv2:=hv
 unfold zfL at hv2
 rw [List.length_map] at hl
 refine Good.zg TT 4000 Tryz.func125 rfl rfl ?_
 unfold Tryz.f125
 simp only [go_sem,go_sem_proc]
 refine Lp.fit TT 4000 h.length (Nat.le_refl _) (fun j:Nat=>l.length - j) (fun j=>j ≤ l.length ∧ (l.take j).any p=false)
  (fun j=>⟨[.c (qk l),v,.und,.und,cI 0,.dead,.c (qk l),cI l.length,cI j] ++ List.replicate 10 .dead,h⟩) 0 ⟨Nat.zero_le _,by simp⟩ ?_ ?_
 ·simp only [go_sem,hvs,hin,List.take_length,go_sem_proc]
 ·rintro j ⟨i1,i2⟩
  rcases Nat.lt_or_ge j l.length with hlt | hge
  ·obtain ⟨x,hx,hm,ht,hd⟩:=vj hlt
   have hw:=zh (j:=j) (by omega)
   simp only [go_sem,hlt,hx,hv2,go_sem_proc]
   refine Cl.of TT 4000 (hp x hm) ?_
   simp only [go_sem,go_sem_proc]
   cases hpx:p x
   ·simp only [go_sem,hw,hpx,go_sem_proc]
    exact ⟨j + 1,by omega,⟨by omega,by rw [ht,List.any_append,i2];simp [hpx]⟩,by simp only [go_sem,hvs,hin,List.take_length,go_sem_proc]⟩
   ·simp only [go_sem,hpx,hvs,hin,List.take_length,Nat.sub_self,go_sem_proc]
    exact Le.of_eq (congrArg cI (idxOf_hit hx hpx i2).symm)
  ·have:j=l.length:=by omega
   subst this
   rw [List.take_length] at i2
   simp only [go_sem,Nat.lt_irrefl,hvs,hin,List.take_length,Nat.sub_self,go_sem_proc]
   exact Le.of_eq (congrArg cI (xP i2).symm)
theorem wg (h:List zf) (g:FuncId) (caps:List AV) (v:AV) (hv:zfL v=some (g,caps)) (p:Val → Bool) (l:List Val) (hp:∀ x,x ∈ l → Good Tryz.prog g (x.av :: caps) h (cB (p x)) h) :
  Good Tryz.prog 161 [.c (qk l),v] h (cB (l.any p)) h:=by
 refine Good.scoped fun hsc hin=>?_
 simp only [AV.sc.scAll,Bool.and_true,Bool.and_eq_true] at hsc
 have hvs:=hsc.2
 refine Good.zg TT 4000 Tryz.func161 rfl rfl ?_
 unfold Tryz.f161
 simp only [go_sem,go_sem_proc]
 refine Cl.of TT 4000 (VF h g caps v hv p l hp) ?_
 simp only [go_sem,hvs,hin,List.take_length,Nat.sub_self,go_sem_proc]
 exact Le.of_eq (congrArg cB (KG p l))
theorem zaq (x:Val) (hi:I64 x.i):Good Tryz.prog 162 [x.av] [] (cB (!x.ok)) []:=by
 refine Good.zg TT 4000 Tryz.func162 rfl rfl ?_
 unfold Tryz.f162
 simp only [go_sem,go_sem_proc]
 (refine Cl.pure TT 4000 (wP x hi) rfl rfl ?_;simp only [go_sem,go_sem_proc])
 cases h:x.ok <;> simp only [go_sem,go_sem_proc]
theorem vx (l:List Val) (hi:∀ x,x ∈ l → I64 x.i):Good Tryz.prog 105 [.c (qk l)] [] (cB (l.all Val.ok)) []:=by
 refine Good.zg TT 4000 Tryz.func105 rfl rfl ?_
 unfold Tryz.f105
 simp only [go_sem,go_sem_proc]
 refine Cl.of TT 4000 (wg [] 162 [] _ rfl (fun x=>!x.ok) l fun x hx=>zaq x (hi x hx)) ?_
 simp only [go_sem,go_sem_proc]
 refine Le.of_eq (congrArg cB ?_)
 rw [List.all_eq_not_any_not]
theorem zdI (x:Val):Good Tryz.prog 164 [x.av] [] (cB (x.k == 0)) []:=by
 refine Good.zg TT 4000 Tryz.func164 rfl rfl ?_
 unfold Tryz.f164
 simp only [go_sem,go_sem_proc]
theorem yJ (l:List Val):Good Tryz.prog 107 [.c (qk l)] [] (cB (l.any fun x=>x.k == 0)) []:=by
 refine Good.zg TT 4000 Tryz.func107 rfl rfl ?_
 unfold Tryz.f107
 simp only [go_sem,go_sem_proc]
 refine Cl.of TT 4000 (wg [] 164 [] _ rfl (fun x=>x.k == 0) l fun x hx=>zdI x) ?_
 simp only [go_sem,go_sem_proc]
theorem vW (n:Int):Good Tryz.prog 109 [cI n] [] (Val.mk 2 n ⟨#[]⟩).av []:=by
 refine Good.zg TT 4000 Tryz.func109 rfl rfl ?_
 unfold Tryz.f109
 simp only [go_sem,go_sem_proc]
theorem yv (s:ByteArray):Good Tryz.prog 218 [cS s] [] (Val.mk 3 0 s).av []:=by
 refine Good.zg TT 4000 Tryz.func218 rfl rfl ?_
 unfold Tryz.f218
 simp only [go_sem,go_sem_proc]
end Go.Ev
end
section
open Go Go.Proofs
namespace Go.Ev
inductive Expr where
 | mk (op:ByteArray) (v:Val) (table name:ByteArray) (l:List Expr)
def Expr.op:Expr → ByteArray | .mk op _ _ _ _=>op
def Expr.v:Expr → Val | .mk _ v _ _ _=>v
def Expr.table:Expr → ByteArray | .mk _ _ t _ _=>t
def Expr.name:Expr → ByteArray | .mk _ _ _ n _=>n
def Expr.l:Expr → List Expr | .mk _ _ _ _ l=>l
mutual
def Expr.cs:Expr → List CV
 | .mk op v t n l=>[.str op,.int .i64 v.k,.int .i64 v.i,.str v.s,.str t,.str n,.lst 7 false (Expr.csL l)]
def Expr.csL:List Expr → List (List CV)
 | []=>[]
 | e :: l=>e.cs :: Expr.csL l
end
theorem Expr.zeq:∀ l:List Expr,Expr.csL l=l.map Expr.cs
 | []=>rfl
 | e :: l=>by simp [Expr.csL,Expr.zeq l]
theorem Expr.Yc (e:Expr):e.cs=[.str e.op,.int .i64 e.v.k,.int .i64 e.v.i,.str e.v.s,.str e.table,.str e.name,.lst 7 false (e.l.map Expr.cs)]:=by
 cases e;simp [Expr.cs,Expr.zeq,Expr.op,Expr.v,Expr.table,Expr.name,Expr.l]
def Expr.av (e:Expr):AV:=.agg [cS e.op,cI e.v.k,cI e.v.i,cS e.v.s,cS e.table,cS e.name,.c (.lst 7 false (e.l.map Expr.cs))]
theorem Expr.zmF {op v t n l}:(Expr.mk op v t n l).op=op:=rfl
theorem Expr.zm9 {op v t n l}:(Expr.mk op v t n l).v=v:=rfl
theorem Expr.ziV {op v t n l}:(Expr.mk op v t n l).table=t:=rfl
theorem Expr.zkD {op v t n l}:(Expr.mk op v t n l).name=n:=rfl
theorem Expr.znd {op v t n l}:(Expr.mk op v t n l).l=l:=rfl
attribute [go_sem] Expr.Yc Expr.av Expr.zmF Expr.zm9 Expr.ziV Expr.zkD Expr.znd
abbrev wz:ByteArray:=⟨#[108,105,116]⟩
abbrev sAt:ByteArray:=⟨#[97,116]⟩
abbrev vS:ByteArray:=⟨#[99,97,108,108]⟩
abbrev qY (v:Val) (e:Int):AV:=.tup [v.av,cI e]
def zeroV:Val:=⟨0,0,⟨#[]⟩⟩
abbrev xd (r:List Val) (e:Expr) (v:Val) (f:Int):Prop:=Good Tryz.prog 57 [e.av,.c (qk r)] [] (qY v f) []
theorem ziP (r:List Val) (e:Expr) (h:(e.op.toList == wz.toList)=true):xd r e e.v 0:=by
 refine Good.zg TT 4000 Tryz.func57 rfl rfl ?_
 unfold Tryz.f57
 simp only [go_sem,h,go_sem_proc]
 exact Le.refl _
theorem zkc (r:List Val) (e:Expr) (h:(e.op.toList == wz.toList)=false) (h2:(e.op.toList == sAt.toList)=true) {x:Val} {j:Nat} (hj:e.v.i=j) (hx:r[j]?=some x):xd r e x 0:=by
 have hlt:=(List.getElem?_eq_some_iff.1 hx).1
 have h3:¬ ((j:Int) < 0):=by omega
 have h4:¬ (r.length ≤ j):=by omega
 refine Good.zg TT 4000 Tryz.func57 rfl rfl ?_
 unfold Tryz.f57
 simp only [go_sem,h,h2,hj,h3,hx,hlt,ge_iff_le,h4,go_sem_proc]
 exact Le.refl _
def ji (vs:List Val) (n j:Nat):List (List CV):=(vs.take j).map Val.cs ++ List.replicate (n - j) [.int .i64 0,.int .i64 0,.str ⟨#[]⟩]
theorem yK {vs:List Val} {n j:Nat} (hn:vs.length=n) (hj:j < n):(ji vs n j)[j]?=some [.int .i64 0,.int .i64 0,.str ⟨#[]⟩]:=by
 unfold ji
 rw [List.getElem?_append_right (by simp;omega),List.getElem?_replicate,if_pos (by simp;omega)]
theorem Zf {vs:List Val} {n j:Nat} {v:Val} (hn:vs.length=n) (hj:j < n) (hv:vs[j]?=some v):(ji vs n j).set j [.int .i64 v.k,.int .i64 v.i,.str v.s]=ji vs n (j + 1):=by
 unfold ji
 have h1:vs.take (j + 1)=vs.take j ++ [v]:=by
  obtain ⟨h,rfl⟩:=List.getElem?_eq_some_iff.1 hv
  exact (List.take_append_getElem h).symm
 obtain ⟨m,hm⟩:∃ m,n - j=m + 1:=⟨n - j - 1,by omega⟩
 rw [h1,hm,show n - (j + 1)=m by omega,List.set_append_right _ _ (by simp;omega)]
 have:j - (List.map Val.cs (List.take j vs)).length=0:=by simp;omega
 rw [this]
 simp [List.replicate_succ,Val.cs]
theorem zfK (r:List Val) (e:Expr) (h:(e.op.toList == wz.toList)=false) (h2:(e.op.toList == sAt.toList)=false) (h3:(e.op.toList == vS.toList)=true) (hb:e.l.length ≤ 1000) (vs:List Val) (hn:vs.length=e.l.length)
  (hp:∀ (j:Nat) x v,e.l[j]?=some x → vs[j]?=some v → xd r x v 0) {res:Val} {f:Int} (hc:Good Tryz.prog 86 [cS e.name,.c (qk vs)] [] (qY res f) []):xd r e res f:=by
 refine Good.zg TT 4000 Tryz.func57 rfl rfl ?_
 unfold Tryz.f57
 simp only [go_sem,h,h2,go_sem_proc]
 refine ⟨⟨by omega,by omega⟩,?_⟩
 refine Lp.fit TT 4000 3 (Nat.zero_le _) (fun j:Nat=>e.l.length - j) (fun j=>j ≤ e.l.length)
  (fun j=>⟨[.dead,.c (qk r),.ptr 0 0,.dead,.ptr 1 0,.dead,.sl 2 0 e.l.length] ++ List.replicate 38 .dead ++ [.c (.lst 7 false (e.l.map Expr.cs)),cI e.l.length,cI j] ++ List.replicate 57 .dead,
   [.box [cS e.op,cI e.v.k,cI e.v.i,cS e.v.s,cS e.table,cS e.name,.c (.lst 7 false (e.l.map Expr.cs))],.box [cI 0,cI 0,cS ⟨#[]⟩],.rows 3 26 (ji vs e.l.length j)]⟩) 0 (Nat.zero_le _) ?_ ?_
 ·simp only [go_sem,go_sem_proc]
  rw [show ji vs e.l.length 0=List.replicate e.l.length [.int .i64 0,.int .i64 0,.str ⟨#[]⟩] by simp [ji]]
 ·rintro j i1
  rcases Nat.lt_or_ge j e.l.length with hlt | hge
  ·obtain ⟨x,hx,hm,ht,hd⟩:=vj hlt
   have hw:=zh (j:=j) (by omega)
   have hv:=List.getElem?_eq_getElem (l:=vs) (i:=j) (by omega)
   generalize vs[j]'(by omega)=v at hv
   have hg:=yK hn hlt
   have hs:=Zf hn hlt hv
   simp only [go_sem,hlt,hx,go_sem_proc]
   (refine Cl.pure TT 4000 (hp j x v hx hv) rfl rfl ?_;simp only [go_sem,hlt,hw,hg,hs,Nat.zero_add,go_sem_proc])
   exact ⟨j + 1,by omega,by omega,by simp only [go_sem,go_sem_proc]⟩
  ·have:j=e.l.length:=by omega
   subst this
   have hf:ji vs e.l.length e.l.length=vs.map Val.cs:=by simp [ji,← hn]
   have hk:List.take e.l.length (vs.map Val.cs)=vs.map Val.cs:=List.take_of_length_le (by simp [hn])
   simp only [go_sem,Nat.lt_irrefl,h3,hf,go_sem_proc]
   refine Cl.pure TT 4000 hc (by simp only [go_sem,Nat.zero_add,hn,hk,Nat.le_refl,go_sem_proc]) rfl ?_
   simp only [go_sem,go_sem_proc]
   exact Le.refl _
theorem zeX (r:List Val) (e:Expr) (h:(e.op.toList == wz.toList)=false) (h2:(e.op.toList == sAt.toList)=false) (h3:(e.op.toList == vS.toList)=false) (hb:e.l.length ≤ 1000) (vs:List Val) (hn:vs.length=e.l.length)
  (hp:∀ (j:Nat) x v,e.l[j]?=some x → vs[j]?=some v → xd r x v 0) {res:Val} {f:Int} {lo hi:Int} {g:FuncId} {caps:List CV}
  (W:Good Tryz.prog 87 [cS e.op] [] (.tup [.agg [cI lo,cI hi,.c (.fn g caps)],cB true]) []) (hlo:lo ≤ e.l.length) (hhi:e.l.length ≤ hi) (G:Good Tryz.prog g (.c (qk vs) :: caps.map opn) [] (qY res f) []):xd r e res f:=by
 refine Good.zg TT 4000 Tryz.func57 rfl rfl ?_
 unfold Tryz.f57
 simp only [go_sem,h,h2,go_sem_proc]
 refine ⟨⟨by omega,by omega⟩,?_⟩
 refine Lp.fit TT 4000 3 (Nat.zero_le _) (fun j:Nat=>e.l.length - j) (fun j=>j ≤ e.l.length)
  (fun j=>⟨[.dead,.c (qk r),.ptr 0 0,.dead,.ptr 1 0,.dead,.sl 2 0 e.l.length] ++ List.replicate 38 .dead ++ [.c (.lst 7 false (e.l.map Expr.cs)),cI e.l.length,cI j] ++ List.replicate 57 .dead,
   [.box [cS e.op,cI e.v.k,cI e.v.i,cS e.v.s,cS e.table,cS e.name,.c (.lst 7 false (e.l.map Expr.cs))],.box [cI 0,cI 0,cS ⟨#[]⟩],.rows 3 26 (ji vs e.l.length j)]⟩) 0 (Nat.zero_le _) ?_ ?_
 ·simp only [go_sem,go_sem_proc]
  rw [show ji vs e.l.length 0=List.replicate e.l.length [.int .i64 0,.int .i64 0,.str ⟨#[]⟩] by simp [ji]]
 ·rintro j i1
  rcases Nat.lt_or_ge j e.l.length with hlt | hge
  ·obtain ⟨x,hx,hm,ht,hd⟩:=vj hlt
   have hw:=zh (j:=j) (by omega)
   have hv:=List.getElem?_eq_getElem (l:=vs) (i:=j) (by omega)
   generalize vs[j]'(by omega)=v at hv
   have hg:=yK hn hlt
   have hs:=Zf hn hlt hv
   simp only [go_sem,hlt,hx,go_sem_proc]
   (refine Cl.pure TT 4000 (hp j x v hx hv) rfl rfl ?_;simp only [go_sem,hlt,hw,hg,hs,Nat.zero_add,go_sem_proc])
   exact ⟨j + 1,by omega,by omega,by simp only [go_sem,go_sem_proc]⟩
  ·have:j=e.l.length:=by omega
   subst this
   have hf:ji vs e.l.length e.l.length=vs.map Val.cs:=by simp [ji,← hn]
   have hk:List.take e.l.length (vs.map Val.cs)=vs.map Val.cs:=List.take_of_length_le (by simp [hn])
   have q1:¬ ((e.l.length:Int) < lo):=by omega
   have q2:¬ ((e.l.length:Int) > hi):=by omega
   simp only [go_sem,Nat.lt_irrefl,h3,hf,go_sem_proc]
   refine Cl.pure TT 4000 W rfl rfl ?_
   simp only [go_sem,q1,q2,go_sem_proc]
   refine Cl.pure TT 4000 G (by simp only [go_sem,Nat.zero_add,hn,hk,Nat.le_refl,go_sem_proc]) rfl ?_
   simp only [go_sem,go_sem_proc]
   exact Le.refl _
end Go.Ev
end
section
open Go Go.Proofs
namespace Go.Ev
theorem Expr.ind {p:Expr → Prop} (h:∀ e,(∀ x,x ∈ e.l → p x) → p e) (e:Expr):p e:=
 @Expr.rec (fun e=>p e) (fun l=>∀ x,x ∈ l → p x) (fun op v t n l ih=>h _ ih) (fun x hx=>by cases hx) (fun a l ha hl x hx=>by
  rcases List.mem_cons.1 hx with rfl | hx
  ·exact ha
  ·exact hl x hx) e
theorem Good.vG {P:Program} {f:FuncId} {args us:List AV} {h h':List zf} {r:AV} {sz:Nat} {x:Bool} {xs:List (List CV)} (hm:AV.agg us ∈ args) (hu:AV.c (.lst sz x xs) ∈ us) (G:xs.length ≤ 9223372036854775807 → Good P f args h r h'):Good P f args h r h':=fun w N ρ vs H hs hl hr=>by
 obtain ⟨i,hi,he⟩:=List.getElem_of_mem hm
 have:=hr i hi (by omega)
 rw [he] at this
 generalize vs[i]=y at this
 refine G ?_ w N ρ vs H hs hl hr
 cases this with
 | agg _ ws hl2 hr2 =>
  obtain ⟨k,hk,hke⟩:=List.getElem_of_mem hu
  have:=hr2 k hk (by omega)
  rw [hke] at this
  generalize ws[k]=z at this
  cases this with
  | c h=>cases h with
   | lst _ _ _ A c V hx hc hm=>omega
theorem Expr.zbQ {P:Program} {f:FuncId} {args:List AV} {h h':List zf} {r:AV} {e:Expr} (hm:e.av ∈ args) (G:e.l.length ≤ 9223372036854775807 → Good P f args h r h'):Good P f args h r h':=
 Good.vG (sz:=7) (x:=false) (xs:=e.l.map Expr.cs) hm (by simp) fun hl=>G (by simpa using hl)
theorem Expr.zjy (e:Expr):e.cs.length=7:=by rw [Expr.Yc];rfl
mutual
def Expr.All (p:Expr → Prop):Expr → Prop
 | .mk op v t n l=>p (.mk op v t n l) ∧ Expr.zl3 p l
def Expr.zl3 (p:Expr → Prop):List Expr → Prop
 | []=>True
 | e :: l=>Expr.All p e ∧ Expr.zl3 p l
end
theorem Expr.zb7 (p:Expr → Prop):∀ l,Expr.zl3 p l ↔ ∀ x,x ∈ l → Expr.All p x
 | []=>by simp [Expr.zl3]
 | e :: l=>by simp [Expr.zl3,Expr.zb7 p l]
theorem Expr.vu (p:Expr → Prop) (e:Expr):Expr.All p e ↔ p e ∧ ∀ x,x ∈ e.l → Expr.All p x:=by
 cases e;rw [Expr.All,Expr.zb7];rfl
section
variable {α β:Type} {f g:α → β} {l:List α}
def zho (f g:α → β) (l:List α) (j:Nat):List β:=(l.take j).map g ++ (l.drop j).map f
theorem zf9:zho f g l 0=l.map f:=by simp [zho]
theorem ziG:zho f g l l.length=l.map g:=by simp [zho]
theorem zhL {j:Nat} {x:α} (h:l[j]?=some x):(zho f g l j)[j]?=some (f x):=by
 have hj:=(List.getElem?_eq_some_iff.1 h).1
 unfold zho
 rw [List.getElem?_append_right (by simp;omega)]
 simp [Nat.min_eq_left (Nat.le_of_lt hj),h]
theorem zjs {j:Nat} {x:α} (h:l[j]?=some x):(zho f g l j).set j (g x)=zho f g l (j + 1):=by
 have hj:=(List.getElem?_eq_some_iff.1 h).1
 have hx:l[j]=x:=by rw [List.getElem?_eq_getElem hj] at h;exact Option.some.inj h
 unfold zho
 rw [List.set_append_right _ _ (by simp;omega)]
 simp only [List.length_map,List.length_take,Nat.min_eq_left (Nat.le_of_lt hj),Nat.sub_self]
 rw [List.drop_eq_getElem_cons hj,List.map_cons,List.set_cons_zero,← List.take_append_getElem hj,List.map_append,hx]
 simp
end
theorem Expr.All.imp {p q:Expr → Prop} (h:∀ x,p x → q x) {e:Expr}:Expr.All p e → Expr.All q e:=by
 induction e using Expr.ind with
 | h e ih =>
  intro ha
  rw [Expr.vu] at ha ⊢
  exact ⟨h e ha.1,fun x hx=>ih x hx (ha.2 x hx)⟩
theorem Expr.All.and {p q:Expr → Prop} {e:Expr}:Expr.All p e → Expr.All q e → Expr.All (fun x=>p x ∧ q x) e:=by
 induction e using Expr.ind with
 | h e ih =>
  intro ha hb
  rw [Expr.vu] at ha hb ⊢
  exact ⟨⟨ha.1,hb.1⟩,fun x hx=>ih x hx (ha.2 x hx) (hb.2 x hx)⟩
end Go.Ev
end
section
open Go Go.Proofs
namespace Go.Ev
theorem QE (F:CV):Good Tryz.prog 129 [.c F] [] (.tup [.agg [cI 1,cI 1,.c (.fn 130 [.pt [F]])],cB true]) []:=by
 refine Good.zg TT 4000 Tryz.func129 rfl rfl ?_
 unfold Tryz.f129
 simp only [go_sem,go_sem_proc]
theorem ze6 (g:FuncId) (caps:List CV) (vs:List Val) (x:Val) (hx:vs[0]?=some x) {res:Val} {f:Int} (G:Good Tryz.prog g (x.av :: caps.map opn) [] (qY res f) []):Good Tryz.prog 130 [.c (qk vs),.rd [.fn g caps]] [] (qY res f) []:=by
 have h0:0 < vs.length:=(List.getElem?_eq_some_iff.1 hx).1
 refine Good.zg TT 4000 Tryz.func130 rfl rfl ?_
 unfold Tryz.f130
 simp only [go_sem,go_sem_proc]
 refine Dr.of TT (by kernel_rfl) [(g,x.av :: caps.map opn,qY res f)] ⟨⟨G,rfl⟩,trivial⟩ ?_
 simp only [go_sem,hx,h0,go_sem_proc]
 refine ⟨by omega,jy.of TT 4000 (zJ (by kernel_rfl)) ?_⟩
 simp only [go_sem,go_sem_proc]
 exact Le.refl _
def zZ (b:Bool):Val:=⟨1,if b then 1 else 0,⟨#[]⟩⟩
theorem Qq (b:Bool):Good Tryz.prog 136 [cB b] [] (zZ b).av []:=by
 refine Good.zg TT 4000 Tryz.func136 rfl rfl ?_
 unfold Tryz.f136
 cases b <;> simp only [go_sem,go_sem_proc]
 ·exact Le.refl _
 ·exact Le.refl _
abbrev yG:ByteArray:=⟨#[105,115,110,117,108,108]⟩
theorem Vk (x:Val) (op:ByteArray):Good Tryz.prog 135 [x.av,.rd [.str op]] [] (qY (zZ ((x.k == 0) == (op.toList == yG.toList))) 0) []:=by
 refine Good.zg TT 4000 Tryz.func135 rfl rfl ?_
 unfold Tryz.f135
 simp only [go_sem,go_sem_proc]
 (refine Cl.pure TT 4000 (Qq ((x.k == 0) == (op.toList == yG.toList))) rfl rfl ?_;simp only [go_sem,go_sem_proc])
 exact Le.refl _
theorem WX:Good Tryz.prog 87 [cS yG] [] (.tup [.agg [cI 1,cI 1,.c (.fn 130 [.pt [.fn 135 [.pt [.str yG]]]])],cB true]) []:=by
 refine Good.zg TT 4000 Tryz.func87 rfl rfl ?_
 unfold Tryz.f87
 simp only [go_sem,go_sem_proc]
 refine Cl.fzP TT 4000 0 1 ?_
 simp only [go_sem,go_sem_proc]
 refine Cl.pure TT 4000 (QE (.fn 135 [.pt [.str yG]])) rfl rfl ?_
 simp only [go_sem,go_sem_proc]
end Go.Ev
end
section
open Go Go.Proofs
namespace Go.Ev
abbrev VL:ByteArray:=⟨#[]⟩
theorem nlE (a b c d e f:AV):Le (.agg [a,b,c,d,e,f,.c .nl]) (.agg [a,b,c,d,e,f,.c (.lst 7 false [])]):=
 Le.agg (.cons (Le.refl _) (.cons (Le.refl _) (.cons (Le.refl _) (.cons (Le.refl _) (.cons (Le.refl _) (.cons (Le.refl _) (.cons (Le.c (CLe.nl 7 false)) .nil)))))))
def atE (i:Int):Expr:=.mk sAt ⟨2,i,VL⟩ VL VL []
def opE (op:ByteArray) (l:List Expr):Expr:=.mk op zeroV VL VL l
theorem zmN (i:Int):Good Tryz.prog 35 [cI i] [] (atE i).av []:=by
 refine Good.zg TT 4000 Tryz.func35 rfl rfl ?_
 unfold Tryz.f35
 simp only [go_sem,go_sem_proc]
 (refine Cl.pure TT 4000 (qU i) rfl rfl ?_;simp only [go_sem,go_sem_proc])
 exact nlE ..
end Go.Ev
end
