import Derived.Test.YtifdakibkadfiaaGreatDoorEvTwo
import Derived.Test.YtifdakibkadfiaaGreatDoorTy
import Derived.Test.YtifdakibkadfiaaGreatDoorProg
import Derived.KernelRfl
set_option linter.all false
set_option maxRecDepth 100000
set_option maxHeartbeats 8000000
attribute [go_sem] Option.getD_some
attribute [go_sem_proc] Nat.reduceAdd Nat.reduceBEq Nat.reduceBNe Nat.reduceMul Nat.reduceSub Nat.reduceEqDiff Nat.reduceLT Nat.reduceLeDiff Int.reduceBEq Int.reduceBNe Int.reduceLT Int.reduceLE Int.reduceGT Int.reduceGE Int.reduceEq Int.reduceAdd Int.reduceSub Int.reduceNeg Int.reduceToNat String.reduceEq UInt8.reduceToNat reduceCtorEq
attribute [go_sem_proc ↓] reduceIte
section
open Go Go.Proofs
namespace Go.Ev
theorem zez:Tryz.prog.follows .mixedOrders=true:=by rfl
theorem TT [qo]:zE Tryz.prog EE:=zaN zez
theorem zlQ:EE.cls=false:=rfl
theorem Vy (op:Op) (nw:Nat) (p:AV × List (Nat × zf)):vi false op nw p=p:=rfl
attribute [go_sem] zlQ Vy
instance seatGlobs:qo:=⟨fun g=>match g with
 | _=>none,
 [
 0
 ]⟩
theorem map_if {α β:Type} {p:Prop} [Decidable p] (f:α → β) (x:Option α):Option.map f (if p then x else none)=if p then Option.map f x else none:=by split <;> rfl
theorem zkN {α β:Type} {p:Prop} [Decidable p] (f:α → β) (x:Option α):Option.map f (if p then none else x)=if p then none else Option.map f x:=by split <;> rfl
attribute [go_sem] map_if zkN
theorem qd {a:Int} (h1:-9223372036854775808 ≤ a) (h2:a ≤ 9223372036854775807):IntKind.wrap .i64 a=a:=by
 simp [IntKind.wrap,IntKind.signed,IntKind.bits]
 split <;> omega
theorem VP (k:IntKind) (mx:Bool) (a b:Int):we mx [.c (.int k a),.c (.int k b)]=some (.c (.int k (if mx then (if b > a then b else a) else (if b < a then b else a)))):=by
 rw [we,if_pos rfl,we]
theorem zkZ (k:IntKind) (a b:Int):we true [.c (.int k a),.c (.int k b)]=some (.c (.int k (max a b))):=by
 rw [VP,if_pos rfl,show (if b > a then b else a)=max a b by split <;> omega]
theorem zku (k:IntKind) (a b:Int):we false [.c (.int k a),.c (.int k b)]=some (.c (.int k (min a b))):=by
 rw [VP,if_neg (by simp),show (if b < a then b else a)=min a b by split <;> omega]
attribute [go_sem] zkZ zku gc ZB j7 List.append_nil false_or true_or or_false or_true and_true true_and not_true_eq_false not_false_eq_true false_and and_false
theorem znc:((0:Nat):Int)=0:=rfl
theorem zh {j:Nat} (h:j < 9223372036854775807):IntKind.wrap .i64 ((j:Int) + 1)=((j + 1:Nat):Int):=qd (by omega) (by omega)
theorem Good.bound {P:Program} {f:FuncId} {args:List AV} {h h':List zf} {r:AV} {sz:Nat} {x:Bool} {xs:List (List CV)} (hm:AV.c (.lst sz x xs) ∈ args) (G:xs.length ≤ 9223372036854775807 → Good P f args h r h'):Good P f args h r h':=fun w N ρ vs H hs hl hr=>by
 obtain ⟨i,hi,he⟩:=List.getElem_of_mem hm
 have:=hr i hi (by omega)
 rw [he] at this
 generalize vs[i]=y at this
 refine G ?_ w N ρ vs H hs hl hr
 cases this with
 | c h=>cases h with
  | lst _ _ _ A c V hx hc hm=>omega
theorem vj {α:Type} {l:List α} {j:Nat} (h:j < l.length):∃ x,l[j]?=some x ∧ x ∈ l ∧ l.take (j + 1)=l.take j ++ [x] ∧ l.drop j=x :: l.drop (j + 1):=
 ⟨l[j],List.getElem?_eq_getElem h,List.getElem_mem h,(List.take_append_getElem h).symm,(List.getElem_cons_drop h).symm⟩
theorem zdW (n:Nat):(0 ≤ (n:Int))=True:=propext ⟨fun _=>trivial,fun _=>Int.natCast_nonneg n⟩
attribute [go_sem] List.filterMap_cons List.filterMap_nil zk9 List.contains_cons List.contains_nil KE ne_eq zdW znc Int.toNat_natCast List.getElem?_map List.length_map Int.ofNat_lt Int.ofNat_le
def bsq:List UInt8 → List UInt8 → Bool
 | [],[]=>true
 | a :: l,b :: m=>(a.toNat == b.toNat) && bsq l m
 | _,_=>false
theorem zjE:∀ a b:List UInt8,(a == b)=bsq a b
 | [],[]=>rfl
 | [],_ :: _=>rfl
 | _ :: _,[]=>rfl
 | a :: l,b :: m=>by
  have:(a.toNat == b.toNat)=(a == b):=by rw [Bool.eq_iff_iff,beq_iff_eq,beq_iff_eq];exact UInt8.toNat_inj
  rw [bsq,← zjE l m,this];rfl
theorem zF (a b:List UInt8):((ByteArray.mk a.toArray).toList == (ByteArray.mk b.toArray).toList)=bsq a b:=by
 rw [Go.ByteArray.toList_eq,Go.ByteArray.toList_eq,← zjE]
theorem KQ (h:List zf):∀ cs:List CV,jK h (cs.map opn)=some (cs.map opn)
 | []=>rfl
 | c :: cs=>by
  have:snap h (opn c)=some (opn c):=by cases c <;> rfl
  simp only [List.map_cons,jK,this,KQ h cs]
theorem VQ:∀ cs:List CV,yZ.all (cs.map opn)=[]
 | []=>rfl
 | c :: cs=>by
  have:yZ (opn c)=[]:=by cases c <;> rfl
  simp only [List.map_cons,yZ.all,this,VQ cs,List.append_nil]
theorem WO:∀ cs:List CV,(cs.map opn).all zcu=true
 | []=>rfl
 | c :: cs=>by
  have:zcu (opn c)=true:=by cases c <;> rfl
  simp only [List.map_cons,List.all_cons,this,WO cs,Bool.and_self]
attribute [go_sem] bsq zF KQ VQ WO
def zjC (a:Array Oper) (rs:List Rec):Bool:=let T:=ZU a a.size;QG (fun i j=>(T.getD j 0).testBit i || kC (recAt rs i) (recAt rs j)) a.size
theorem zJ {a:Array Oper} {rs:List Rec} (h:zjC a rs=true):Z9 a rs=true:=by
 unfold Z9
 unfold zjC at h
 simp only [Bool.or_comm] at h ⊢
 simp only [Bool.or_eq_true]
 exact .inl h
def Zk:List Bool → List AV → List AV
 | true :: m,_ :: t=>.dead :: Zk m t
 | false :: m,x :: t=>x :: Zk m t
 | [],t=>t
 | _ :: _,[]=>[]
def ye:List (Nat × AV) → List AV → List AV
 | [],t=>t
 | p :: V,t=>ye V (t.set p.1 p.2)
def zjQ:List (Nat × zf) → List zf → List zf
 | [],h=>h
 | p :: B,h=>zjQ B (h.set p.1 p.2)
def zlf (q:Nat) (m:List Bool) (t:List AV) (h:List zf) (V:List (Nat × AV)) (B:List (Nat × zf)):St:=⟨ye V (Zk m t),zjQ B (h.take q)⟩
theorem Lp.at [qo] {G:Ctx} {K:List Fr} {t:List AV} {h:List zf} {c:Code} (T:zE G.P G.E) (k:Nat) (q:Nat) (hq:G.n ≤ q) (m:List Bool) {α:Type} (μ:α → Nat) (I:α → Prop) (V:α → List (Nat × AV)) (B:α → List (Nat × zf)) (a0:α) (h0:I a0) (hs:zle q ⟨t,h⟩ (zlf q m t h (V a0) (B a0)))
  (round:∀ a,I a → vm G k (.code c) (.lp (fun s'=>∃ a',μ a' < μ a ∧ I a' ∧ zle q s' (zlf q m t h (V a') (B a'))) :: K) (zlf q m t h (V a) (B a))):Lp G c K ⟨t,h⟩:=
 Lp.fit T k q hq μ I (fun a=>zlf q m t h (V a) (B a)) a0 h0 hs round
theorem zd9 {m:List Bool} {x:AV} {t:List AV}:Zk (true :: m) (x :: t) = .dead :: Zk m t:=by rw [Zk]
theorem zak {m:List Bool} {x:AV} {t:List AV}:Zk (false :: m) (x :: t)=x :: Zk m t:=by rw [Zk]
theorem zgq {t:List AV}:Zk [] t=t:=by cases t <;> rw [Zk]
theorem zc5 {t:List AV}:ye [] t=t:=by rw [ye]
theorem YW {p:Nat × AV} {V:List (Nat × AV)} {t:List AV}:ye (p :: V) t=ye V (t.set p.1 p.2):=by rw [ye]
theorem zhu {t:List zf}:zjQ [] t=t:=by rw [zjQ]
theorem ze4 {p:Nat × zf} {V:List (Nat × zf)} {t:List zf}:zjQ (p :: V) t=zjQ V (t.set p.1 p.2):=by rw [zjQ]
theorem zkW {q:Nat} {m:List Bool} {t:List AV} {h:List zf} {V:List (Nat × AV)} {B:List (Nat × zf)}:zlf q m t h V B=⟨ye V (Zk m t),zjQ B (h.take q)⟩:=by rw [zlf]
attribute [go_sem] zd9 zak zgq zc5 YW zhu ze4 zkW
def zmY (o:Option AV) (n:Nat) (js:List Nat) (h:List zf) (r:AV) (h':List zf):Prop:=∃ v,o=some v ∧ yV n js h.length=true ∧ n ≤ h.length ∧ Le (ren (posOf n js) v) r ∧ r.sc (born h')=true ∧ jc n js h=h'
def zmZ (n:Nat) (js:List Nat) (h:List zf) (v r:AV) (h':List zf):Prop:=yV n js h.length=true ∧ n ≤ h.length ∧ Le (ren (posOf n js) v) r ∧ r.sc (born h')=true ∧ jc n js h=h'
theorem zfi {v:AV} {n:Nat} {js:List Nat} {h:List zf} {r:AV} {h':List zf}:zmY (some v) n js h r h'=zmZ n js h v r h':=propext ⟨fun ⟨_,h1,h2⟩=>by cases h1;exact h2,fun h=>⟨_,rfl,h⟩⟩
def zmR (E:Env) (rs:List ResultVar) (n:Nat) (js:List Nat) (r:AV) (h':List zf) (e:Exit) (s:St):Prop:=
 (e = .normal ∨ e = .ret) ∧ zmY (zeb E rs s) n js s.h r h'
theorem Good.zlk [qo] {P:Program} {E:Env} (T:zE P E) (k:Nat) (js:List Nat) {f:FuncId} {fn:Func} {c:Code} {args:List AV} {h h':List zf} {r:AV} (hf:P.funcs[f]?=some fn) (hb:fn.body=some c) (hn:(fn.name == "runtime.NumGoroutine")=false)
  (hv:vm ⟨P,E,h.length,zmR E fn.results.toList h.length js r h'⟩ k (.code c) [] ⟨args ++ List.replicate (fn.ntmps - args.length) .und,h⟩):Good P f args h r h':=by
 refine Good.zfA T (fun v k=>yV h.length js k.length=true ∧ h.length ≤ k.length ∧ Le (ren (posOf h.length js) v) r ∧ r.sc (born h')=true ∧ jc h.length js k=h') hf hb hn ?_ ((zjK T k hv).turn fun e s1 X a w hX hq hs=>?_)
 ·rintro X a w v k hX ⟨h1,h2,h3,h4,rfl⟩ hs
  have h5:=hs.pack 1 h.length js (by rw [hX];exact Nat.le_refl _) h2 h1
  simp only [Ev.pack,List.take_succ_cons,List.take_zero,ren.all,List.length_singleton,Nat.sub_self,List.replicate_zero,List.append_nil] at h5
  obtain ⟨N,ρ,S⟩:=h5
  refine ⟨N,ρ,S.heap,⟨S.slots.len,fun i u hu=>?_,S.slots.glob⟩,?_,S.kept,S.defers⟩
  ·match i,hu with
   | 0,hu =>
    obtain ⟨x,hx,hr⟩:=S.slots.rep 0 _ rfl
    simp at hu;subst hu
    exact ⟨x,hx,h3.rep _ _ _ _ hr⟩
   | i + 1,hu=>simp at hu
  ·simp only [AV.sc.scAll,Bool.and_true];exact h4
 ·obtain ⟨he,v,hv,h1⟩:=hq
  exact ⟨_,hs,he,v,hv,h1⟩
attribute [go_sem] zmR zfi zmZ
end Go.Ev
end
section
open Go Go.Proofs Go.RowKit
namespace Go.Ev
theorem Good.enter {P:Program} {f:FuncId} {fn:Func} {c:Code} {args:List AV} {r:AV} (G:Good P f args [] r []) (hf:P.funcs[f]?=some fn) (hb:fn.body=some c) (hn:(fn.name == "runtime.NumGoroutine")=false)
  {w:World} {vs:List Value} (N:Nat → Prop) (hN:∀ b,N b → b < w.heap.size) (hg:Qs w N) (hl:args.length=vs.length) (hcl:AV.cl.clAll args=true)
  (hrep:∀ (i:Nat) (h1:i < args.length) (h2:i < vs.length),zo w N (fun _=>default) args[i] vs[i]) :
  Calls P f vs.toArray w fun e w'=>∃ v,e = .returned v ∧ (∃ N' ρ,zo w' N' ρ r v) ∧ Below w.heap.size w w':=by
 have H0:zw N [] (fun _=>default) w:=⟨hN,fun i j hi=>by obtain ⟨⟨k,hk,_⟩,_⟩:=hi;simp at hk,fun i hi=>by obtain ⟨⟨k,hk,_⟩,_⟩:=hi;simp at hk,fun i k hk=>by simp at hk,fun i cs hk=>by simp at hk,hg⟩
 have hsc:AV.sc.scAll (born []) args=true:=AV.YL.all args hcl _
 have hn':¬ fn.name = "runtime.NumGoroutine":=by simpa using hn
 refine (Good.calls G H0 hsc hl hrep (by simp [callFunc,go_sem,hf,hn',hb])).mono ?_
 rintro e w' ⟨v,rfl,⟨N',ρ',H',hr,K,_⟩⟩
 refine ⟨v,rfl,⟨N',ρ',hr⟩,K.os,K.tape,K.output,K.size,fun b hb=>K.rest b hb fun i hi=>?_⟩
 obtain ⟨⟨k,hk,_⟩,_⟩:=hi
 simp at hk
end Go.Ev
end
section
open Go Go.Proofs
namespace Go.Ev
structure Val where
 k:Int
 i:Int
 s:ByteArray
abbrev cI (n:Int):AV:=.c (.int .i64 n)
abbrev cB (b:Bool):AV:=.c (.bool b)
abbrev cS (s:ByteArray):AV:=.c (.str s)
def Val.cs (v:Val):List CV:=[.int .i64 v.k,.int .i64 v.i,.str v.s]
def Val.av (v:Val):AV:=.agg [cI v.k,cI v.i,cS v.s]
attribute [go_sem] Val.cs Val.av
def Val.ok (v:Val):Bool:=
 (v.k == 0 && v.i == 0 && v.s.size == 0) || (v.k == 1 && (v.i == 0 || v.i == 1) && v.s.size == 0) || (v.k == 2 && v.s.size == 0) || ((v.k == 3 || v.k == 4) && v.i == 0)
def Val.same (a b:Val):Bool:=a.k == b.k && a.i == b.i && a.s.toList == b.s.toList
def Val.lt (a b:Val):Bool:=decide (a.k < b.k) || (a.k == b.k && decide (a.i < b.i)) || (a.k == b.k && a.i == b.i && Op.bytesLess a.s.toList b.s.toList)
def Val.cmp (a b:Val):Int:=if a.lt b then -1 else if a.same b then 0 else 1
def I64 (n:Int):Prop:=-9223372036854775808 ≤ n ∧ n ≤ 9223372036854775807
theorem Kw (x y:BitVec 64):x=(x &&& y) ||| (x &&& ~~~y):=by
 ext j hj
 simp only [BitVec.getElem_or,BitVec.getElem_and,BitVec.getElem_not]
 cases x[j] <;> cases y[j] <;> rfl
theorem Ki (x:BitVec 64):(x &&& ~~~1#64=0#64) ↔ (x=0#64 ∨ x=1#64):=by
 constructor
 ·intro h
  have e:=Kw x 1#64
  rw [h] at e
  have e2:x.toNat=x.toNat % 2:=by
   have:=congrArg BitVec.toNat e
   simpa [Nat.and_one_is_mod] using this
  have:x.toNat=0 ∨ x.toNat=1:=by omega
  rcases this with h | h
  ·left;exact BitVec.eq_of_toNat_eq (by simpa using h)
  ·right;exact BitVec.eq_of_toNat_eq (by simpa using h)
 ·rintro (rfl | rfl) <;> decide
theorem ZO (i:Int) (hi:I64 i):(bits BinOp.andNot IntKind.i64 i 1 != 0) = !(i == 0 || i == 1):=by
 unfold I64 at hi
 have h1:bits BinOp.andNot IntKind.i64 i 1=IntKind.i64.wrap ((BitVec.ofInt 64 i &&& ~~~1#64).toNat:Int):=rfl
 have hk:=Ki (BitVec.ofInt 64 i)
 have hz:(bits BinOp.andNot IntKind.i64 i 1=0) ↔ (BitVec.ofInt 64 i &&& ~~~1#64)=0#64:=by
  rw [h1,IntKind.wrap_i64]
  generalize (BitVec.ofInt 64 i &&& ~~~1#64)=y
  have:=y.isLt
  constructor
  ·intro h;apply BitVec.eq_of_toNat_eq;simp;omega
  ·intro h;subst h;decide
 have hx:∀ m:Nat,m < 2 → (BitVec.ofInt 64 i=BitVec.ofNat 64 m ↔ i=m):=by
  intro m hm
  constructor
  ·intro h
   have:=congrArg BitVec.toNat h
   simp [BitVec.toNat_ofInt] at this
   omega
  ·intro h;subst h;apply BitVec.eq_of_toNat_eq;simp
 have h0:=hx 0 (by omega)
 have h2:=hx 1 (by omega)
 rw [hk] at hz
 by_cases a:i=0
 ·subst a;decide
 ·by_cases b:i=1
  ·subst b;decide
  ·have:¬ bits BinOp.andNot IntKind.i64 i 1=0:=by
    rw [hz];rintro (h | h)
    ·exact a (h0.1 h)
    ·exact b (h2.1 h)
   rw [show (i == 0)=false from beq_eq_false_iff_ne.2 a,show (i == 1)=false from beq_eq_false_iff_ne.2 b,show (bits BinOp.andNot IntKind.i64 i 1 != 0)=true from bne_iff_ne.2 this];rfl
theorem WR (s:ByteArray):(s.toList == (⟨#[]⟩:ByteArray).toList)=(s.size == 0):=by
 rw [Bool.eq_iff_iff,beq_iff_eq,beq_iff_eq,Go.ByteArray.toList_eq,Go.ByteArray.toList_eq]
 rcases s with ⟨⟨l⟩⟩
 show l=[] ↔ l.length=0
 cases l <;> simp
attribute [go_sem] WR
theorem wP (v:Val) (hi:I64 v.i):Good Tryz.prog 159 [v.av] [] (cI (if v.ok then 0 else 1)) []:=by
 have ha:=ZO v.i hi
 refine Good.zg TT 4000 Tryz.func159 rfl rfl ?_
 unfold Tryz.f159
 simp only [go_sem,go_sem_proc]
 repeat' first | (refine wZ (by simp only [go_sem]) ?_ ?_ <;> intro hg <;> simp only [go_sem,hg,ha,go_sem_proc]) | (refine QB ?_ ?_ <;> intro hg <;> simp only [go_sem,hg,ha,go_sem_proc])
 all_goals refine Le.of_eq (congrArg cI ?_)
 all_goals simp_all [Val.ok]
 all_goals first | omega | (refine ⟨⟨⟨fun _=>?_,fun _=>?_⟩,fun _=>?_⟩,fun _=>?_⟩ <;> omega)
theorem ZA (v:Val):Good Tryz.prog 70 [v.av] [] (cI (if v.ok then 0 else 1)) []:=by
 refine Good.zg TT 4000 Tryz.func70 rfl rfl ?_
 unfold Tryz.f70
 simp only [go_sem,go_sem_proc]
 repeat' first | (refine wZ (by simp only [go_sem]) ?_ ?_ <;> intro hg <;> simp only [go_sem,hg,go_sem_proc]) | (refine QB ?_ ?_ <;> intro hg <;> simp only [go_sem,hg,go_sem_proc])
 all_goals refine Le.of_eq (congrArg cI ?_)
 all_goals simp_all [Val.ok]
def kj (l:List Val):Int:=if l.any (fun v=>!v.ok) then 1 else if 64 < l.length then 2 else 0
def qk (l:List Val):CV:=.lst 3 false (l.map Val.cs)
attribute [go_sem] qk
theorem XC (l:List Val):Good Tryz.prog 38 [.c (qk l)] [] (cI (kj l)) []:=by
 refine Good.bound (xs:=l.map Val.cs) (List.mem_singleton.2 rfl) fun hl=>?_
 rw [List.length_map] at hl
 refine Good.zg TT 4000 Tryz.func38 rfl rfl ?_
 unfold Tryz.f38
 simp only [go_sem,go_sem_proc]
 refine Lp.fit TT 4000 0 (Nat.le_refl _) (fun j:Nat=>l.length - j) (fun j=>j ≤ l.length ∧ (l.take j).any (fun v=>!v.ok)=false)
  (fun j=>⟨[.c (qk l),.und,cI 0,.und,.dead,.dead,.c (qk l),cI l.length,cI j] ++ List.replicate 12 .dead,[]⟩) 0 ⟨Nat.zero_le _,by simp⟩ ?_ ?_
 ·simp only [go_sem,go_sem_proc]
 ·rintro j ⟨i1,i2⟩
  rcases Nat.lt_or_ge j l.length with hlt | hge
  ·obtain ⟨x,hx,hm,ht,hd⟩:=vj hlt
   have hw:=zh (j:=j) (by omega)
   simp only [go_sem,hlt,hx,go_sem_proc]
   refine Cl.pure TT 4000 (ZA x) rfl rfl ?_
   simp only [go_sem,hw,go_sem_proc]
   cases hk:x.ok
   ·simp only [go_sem,hk,Bool.false_eq_true,go_sem_proc]
    refine Le.of_eq (congrArg cI ?_)
    have:l.any (fun v=>!v.ok)=true:=List.any_eq_true.2 ⟨x,hm,by rw [hk];rfl⟩
    simp [kj,this]
   ·simp only [go_sem,hk,hw,go_sem_proc]
    exact ⟨j + 1,by omega,⟨by omega,by rw [ht,List.any_append,i2];simp [hk]⟩,zq.of_eq rfl⟩
  ·simp only [go_sem,Nat.not_lt.2 hge,go_sem_proc]
   have:j=l.length:=by omega
   subst this
   rw [List.take_length] at i2
   repeat' first | (refine wZ (by simp only [go_sem]) ?_ ?_ <;> intro hg <;> simp only [go_sem,hg,go_sem_proc]) | (refine QB ?_ ?_ <;> intro hg <;> simp only [go_sem,hg,go_sem_proc])
   all_goals refine Le.of_eq (congrArg cI ?_)
   all_goals simp [kj,i2]
   all_goals simp at hg
   all_goals omega
theorem qU (n:Int):Good Tryz.prog 36 [cI n] [] (Val.mk 2 n ⟨#[]⟩).av []:=by
 refine Good.zg TT 4000 Tryz.func36 rfl rfl ?_
 unfold Tryz.f36
 simp only [go_sem,go_sem_proc]
end Go.Ev
end
section
open Go Go.Proofs
namespace Go.Ev
def cmpL:List UInt8 → List UInt8 → Int
 | [],[]=>0
 | [],_ :: _=>-1
 | _ :: _,[]=>1
 | a :: x,b :: y=>if a < b then -1 else if a == b then cmpL x y else 1
theorem WC:∀ x y:List UInt8,cmpL x y=if Op.bytesLess x y then -1 else if x == y then 0 else 1
 | [],[]=>rfl
 | [],_ :: _=>rfl
 | _ :: _,[]=>rfl
 | a :: x,b :: y=>by
  simp only [cmpL,Op.bytesLess,WC x y]
  by_cases h1:a < b
  ·simp [h1]
  ·by_cases h2:a=b
   ·subst h2;simp [h1]
   ·simp [h1,h2]
def zme (x y:List UInt8):Int:=match (List.range (min x.length y.length)).find? fun i=>x.getD i 0 != y.getD i 0 with
 | some i=>if x.getD i 0 < y.getD i 0 then -1 else 1
 | none=>if x.length < y.length then -1 else if x.length > y.length then 1 else 0
theorem zfk:∀ x y:List UInt8,zme x y=cmpL x y
 | [],[]=>rfl
 | [],b :: y=>by simp [zme,cmpL]
 | a :: x,[]=>by simp [zme,cmpL]
 | a :: x,b :: y=>by
  have ih:=zfk x y
  unfold zme at ih ⊢
  rw [cmpL,← ih]
  simp only [List.length_cons,Nat.succ_min_succ,List.range_succ_eq_map,List.find?_cons,List.getD_cons_zero,List.find?_map]
  by_cases h:a=b
  ·subst h
   simp only [bne_self_eq_false,UInt8.lt_irrefl,if_false,beq_self_eq_true,if_true]
   have e:((fun i=>(a :: x).getD i 0 != (a :: y).getD i 0) ∘ Nat.succ)=fun i=>x.getD i 0 != y.getD i 0:=by funext i;simp
   rw [e]
   cases (List.range (min x.length y.length)).find? fun i=>x.getD i 0 != y.getD i 0 with
   | none=>simp
   | some i=>simp
  ·have h':(a != b)=true:=bne_iff_ne.2 h
   simp [h',h]
theorem zlL (a:ByteArray) (i:Nat):a[i]! = a.data.toList.getD i 0:=by
 rcases a with ⟨⟨l⟩⟩
 show (ByteArray.mk ⟨l⟩)[i]! = l.getD i 0
 by_cases h:i < l.length
 ·rw [getElem!_pos (ByteArray.mk ⟨l⟩) i h]
  simp [List.getD,List.getElem?_eq_getElem h]
  rfl
 ·rw [getElem!_neg (ByteArray.mk ⟨l⟩) i h]
  simp [List.getD,List.getElem?_eq_none (Nat.le_of_not_lt h)]
  rfl
theorem zkP (a b:ByteArray):Extern.BytealgCompare.cmp a b=if Op.bytesLess a.toList b.toList then -1 else if a.toList == b.toList then 0 else 1:=by
 rw [← WC,← zfk,Go.ByteArray.toList_eq,Go.ByteArray.toList_eq]
 unfold Extern.BytealgCompare.cmp zme
 simp only [zlL]
 rfl
theorem VG (a b:ByteArray) (h:List zf):Good Tryz.prog 182 [cS a,cS b] h (cI (Extern.BytealgCompare.cmp a b)) h:=
 Good.ext Tryz.func182 rfl rfl (by rfl) (by rfl) rfl fun w N ρ vs hl hr=>Vq _ _ _ w N ρ vs hl hr
def zkS (a b:ByteArray):Int:=if Op.bytesLess a.toList b.toList then -1 else if a.toList == b.toList then 0 else 1
theorem yP (a b:ByteArray):Good Tryz.prog 153 [cS a,cS b] [] (cI (zkS a b)) []:=by
 refine Good.zg TT 4000 Tryz.func153 rfl rfl ?_
 unfold Tryz.f153
 simp only [go_sem,go_sem_proc]
 refine Cl.of TT 4000 (VG a b []) ?_
 simp only [go_sem,go_sem_proc]
 exact Le.of_eq (congrArg cI (zkP a b))
theorem VC (a b:ByteArray):Good Tryz.prog 97 [cS a,cS b] [] (cI (zkS a b)) []:=by
 refine Good.zg TT 4000 Tryz.func97 rfl rfl ?_
 unfold Tryz.f97
 simp only [go_sem,go_sem_proc]
 (refine Cl.pure TT 4000 (yP a b) rfl rfl ?_;simp only [go_sem,go_sem_proc])
def zdk (a b:Int):Int:=if a < b then -1 else if b < a then 1 else 0
theorem X7 (n:Int):Good Tryz.prog 151 [cI n] [] (cB false) []:=by
 refine Good.zg TT 4000 Tryz.func151 rfl rfl ?_
 unfold Tryz.f151
 simp only [go_sem,bne_self_eq_false,go_sem_proc]
theorem Vd (n:Int):Good Tryz.prog 152 [cI n] [] (cB false) []:=by
 refine Good.zg TT 4000 Tryz.func152 rfl rfl ?_
 unfold Tryz.f152
 simp only [go_sem,bne_self_eq_false,go_sem_proc]
theorem VA (a b:Int):Good Tryz.prog 95 [cI a,cI b] [] (cI (zdk a b)) []:=by
 refine Good.zg TT 4000 Tryz.func95 rfl rfl ?_
 unfold Tryz.f95
 simp only [go_sem,go_sem_proc]
 repeat' first | (refine wZ (by simp only [go_sem]) ?_ ?_ <;> intro hg <;> simp only [go_sem,hg,go_sem_proc]) | (refine QB ?_ ?_ <;> intro hg <;> simp only [go_sem,hg,go_sem_proc]) | (refine Cl.pure TT 4000 (X7 a) rfl rfl ?_;simp only [go_sem,go_sem_proc]) | (refine Cl.pure TT 4000 (X7 b) rfl rfl ?_;simp only [go_sem,go_sem_proc])
 all_goals refine Le.of_eq (congrArg cI ?_)
 all_goals simp only [zdk,decide_eq_true_eq,decide_eq_false_iff_not] at *
 all_goals (repeat' split) <;> omega
theorem QA (a b:Int):Good Tryz.prog 96 [cI a,cI b] [] (cI (zdk a b)) []:=by
 refine Good.zg TT 4000 Tryz.func96 rfl rfl ?_
 unfold Tryz.f96
 simp only [go_sem,go_sem_proc]
 repeat' first | (refine wZ (by simp only [go_sem]) ?_ ?_ <;> intro hg <;> simp only [go_sem,hg,go_sem_proc]) | (refine QB ?_ ?_ <;> intro hg <;> simp only [go_sem,hg,go_sem_proc]) | (refine Cl.pure TT 4000 (Vd a) rfl rfl ?_;simp only [go_sem,go_sem_proc]) | (refine Cl.pure TT 4000 (Vd b) rfl rfl ?_;simp only [go_sem,go_sem_proc])
 all_goals refine Le.of_eq (congrArg cI ?_)
 all_goals simp only [zdk,decide_eq_true_eq,decide_eq_false_iff_not] at *
 all_goals (repeat' split) <;> omega
def orS:List Int → Int
 | []=>0
 | n :: l=>if n ≠ 0 then n else orS l
def zlg (n:Int):List CV:=[.int .i64 n]
attribute [go_sem] zlg
theorem ze1 (l:List Int):Good Tryz.prog 94 [.c (.lst 1 false (l.map zlg))] [] (cI (orS l)) []:=by
 refine Good.bound (xs:=l.map zlg) (List.mem_cons_self ..) fun hl=>?_
 rw [List.length_map] at hl
 refine Good.zg TT 4000 Tryz.func94 rfl rfl ?_
 unfold Tryz.f94
 simp only [go_sem,go_sem_proc]
 refine Lp.fit TT 4000 0 (Nat.le_refl _) (fun j:Nat=>l.length - j) (fun j=>j ≤ l.length ∧ orS l=orS (l.drop j))
  (fun j=>⟨[.c (.lst 1 false (l.map zlg)),.und,cI 0,cI 0,.und,.dead,.c (.lst 1 false (l.map zlg)),cI l.length,cI j] ++ List.replicate 9 .dead,[]⟩) 0 ⟨Nat.zero_le _,by simp⟩ ?_ ?_
 ·simp only [go_sem,go_sem_proc]
 ·rintro j ⟨i1,i2⟩
  rcases Nat.lt_or_ge j l.length with hlt | hge
  ·obtain ⟨x,hx,hm,ht,hd⟩:=vj hlt
   have hw:=zh (j:=j) (by omega)
   rw [hd] at i2
   simp only [go_sem,hlt,hx,go_sem_proc]
   repeat' first | (refine wZ (by simp only [go_sem]) ?_ ?_ <;> intro hg <;> simp only [go_sem,hg,hw,go_sem_proc]) | (refine QB ?_ ?_ <;> intro hg <;> simp only [go_sem,hg,hw,go_sem_proc])
   ·simp only [bne_iff_ne,ne_eq] at hg
    exact Le.of_eq (congrArg cI (by rw [i2,orS,if_pos hg]))
   ·have hg':x=0:=by simpa using hg
    exact ⟨j + 1,by omega,⟨by omega,by rw [i2,orS,if_neg (by simp [hg'])]⟩,zq.of_eq rfl⟩
  ·simp only [go_sem,Nat.not_lt.2 hge,go_sem_proc]
   exact Le.of_eq (congrArg cI (by rw [i2,List.drop_of_length_le hge];rfl))
theorem zlj (a b:Val):orS [zdk a.k b.k,zdk a.i b.i,zkS a.s b.s]=a.cmp b:=by
 unfold Val.cmp Val.lt Val.same zdk zkS orS orS orS orS
 by_cases h1:a.k < b.k
 ·simp [h1]
 ·by_cases h2:b.k < a.k
  ·have:(a.k == b.k)=false:=beq_eq_false_iff_ne.2 (by omega)
   simp [h1,h2,this]
  ·have e1:(a.k == b.k)=true:=beq_iff_eq.2 (by omega)
   by_cases h3:a.i < b.i
   ·simp [h1,h2,e1,h3]
   ·by_cases h4:b.i < a.i
    ·have:(a.i == b.i)=false:=beq_eq_false_iff_ne.2 (by omega)
     simp [h1,h2,e1,h3,h4,this]
    ·have e2:(a.i == b.i)=true:=beq_iff_eq.2 (by omega)
     simp only [h1,h2,h3,h4,e1,e2,if_false,decide_false,Bool.true_and,Bool.false_or,ne_eq,not_true_eq_false]
     by_cases h5:Op.bytesLess a.s.toList b.s.toList=true
     ·simp [h5]
     ·by_cases h6:(a.s.toList == b.s.toList)=true
      ·simp [h5,h6]
      ·simp [h5,h6]
theorem JA (a b:Val):Good Tryz.prog 67 [a.av,b.av] [] (cI (a.cmp b)) []:=by
 refine Good.zg TT 4000 Tryz.func67 rfl rfl ?_
 unfold Tryz.f67
 simp only [go_sem,go_sem_proc]
 refine Dr.of TT (by kernel_rfl) [(95,[cI a.k,cI b.k],cI (zdk a.k b.k)),(96,[cI a.i,cI b.i],cI (zdk a.i b.i)),(97,[cS a.s,cS b.s],cI (zkS a.s b.s)),(94,[.c (.lst 1 false ([zdk a.k b.k,zdk a.i b.i,zkS a.s b.s].map zlg))],cI (orS [zdk a.k b.k,zdk a.i b.i,zkS a.s b.s]))]
  ⟨⟨VA _ _,rfl⟩,⟨QA _ _,rfl⟩,⟨VC _ _,rfl⟩,⟨ze1 _,rfl⟩,trivial⟩ ?_
 simp only [go_sem,go_sem_proc]
 refine jy.of TT 4000 (by kernel_rfl) ?_
 simp only [go_sem,go_sem_proc]
 exact Le.of_eq (congrArg cI (zlj a b))
theorem VO (a b:Val):Good Tryz.prog 127 [a.av,b.av] [] (cB (a.same b)) []:=by
 refine Good.zg TT 4000 Tryz.func127 rfl rfl ?_
 unfold Tryz.f127
 simp only [go_sem,go_sem_proc]
 exact Le.of_eq (congrArg cB (by rw [Val.same,Bool.and_assoc]))
end Go.Ev
end
