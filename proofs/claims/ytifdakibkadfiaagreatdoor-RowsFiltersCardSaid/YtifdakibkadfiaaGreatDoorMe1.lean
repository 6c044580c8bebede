import Derived.Test.YtifdakibkadfiaaGreatDoorEvTwo
import Derived.Test.YtifdakibkadfiaaGreatDoorTy
import Derived.Test.YtifdakibkadfiaaGreatDoorProg
import Derived.KernelRfl
set_option linter.all false
set_option maxRecDepth 100000
set_option maxHeartbeats 8000000
attribute [go_sem] Option.getD_some
attribute [go_sem_proc] Nat.reduceAdd Nat.reduceBEq Nat.reduceBNe Nat.reduceMul Nat.reduceSub Nat.reduceEqDiff Nat.reduceLT Nat.reduceLeDiff Int.reduceBEq Int.reduceBNe Int.reduceLT Int.reduceLE Int.reduceGT Int.reduceGE Int.reduceEq Int.reduceAdd Int.reduceSub Int.reduceNeg Int.reduceToNat String.reduceEq UInt8.reduceToNat reduceCtorEq
attribute [go_sem_proc ↓] reduceIte
section
open Go Go.Proofs
namespace Go.Ev
theorem mixed16:Tryz.prog.follows .mixedOrders=true:=by rfl
theorem TT [Globs]:TabOK Tryz.prog EE:=envV_ok mixed16
theorem EE_cls:EE.cls=false:=rfl
theorem closeRow_false (op:Op) (nw:Nat) (p:AV × List (Nat × ABlk)):closeRow false op nw p=p:=rfl
attribute [go_sem] EE_cls closeRow_false
instance seatGlobs:Globs:=⟨fun g=>match g with
 | _=>none,
 [
 0
 ]⟩
theorem map_if {α β:Type} {p:Prop} [Decidable p] (f:α → β) (x:Option α):Option.map f (if p then x else none)=if p then Option.map f x else none:=by split <;> rfl
theorem map_ifn {α β:Type} {p:Prop} [Decidable p] (f:α → β) (x:Option α):Option.map f (if p then none else x)=if p then none else Option.map f x:=by split <;> rfl
attribute [go_sem] map_if map_ifn
theorem wrap_id {a:Int} (h1:-9223372036854775808 ≤ a) (h2:a ≤ 9223372036854775807):IntKind.wrap .i64 a=a:=by
 simp [IntKind.wrap,IntKind.signed,IntKind.bits]
 split <;> omega
theorem minMax_two (k:IntKind) (mx:Bool) (a b:Int):minMax mx [.c (.int k a),.c (.int k b)]=some (.c (.int k (if mx then (if b > a then b else a) else (if b < a then b else a)))):=by
 rw [minMax,if_pos rfl,minMax]
theorem max_two (k:IntKind) (a b:Int):minMax true [.c (.int k a),.c (.int k b)]=some (.c (.int k (max a b))):=by
 rw [minMax_two,if_pos rfl,show (if b > a then b else a)=max a b by split <;> omega]
theorem min_two (k:IntKind) (a b:Int):minMax false [.c (.int k a),.c (.int k b)]=some (.c (.int k (min a b))):=by
 rw [minMax_two,if_neg (by simp),show (if b < a then b else a)=min a b by split <;> omega]
attribute [go_sem] max_two min_two gc scrub scrubB List.append_nil false_or true_or or_false or_true and_true true_and not_true_eq_false not_false_eq_true false_and and_false
theorem nat0:((0:Nat):Int)=0:=rfl
theorem wrap_succ {j:Nat} (h:j < 9223372036854775807):IntKind.wrap .i64 ((j:Int) + 1)=((j + 1:Nat):Int):=wrap_id (by omega) (by omega)
theorem Good.bound {P:Program} {f:FuncId} {args:List AV} {h h':List ABlk} {r:AV} {sz:Nat} {x:Bool} {xs:List (List CV)} (hm:AV.c (.lst sz x xs) ∈ args) (G:xs.length ≤ 9223372036854775807 → Good P f args h r h'):Good P f args h r h':=fun w N ρ vs H hs hl hr=>by
 obtain ⟨i,hi,he⟩:=List.getElem_of_mem hm
 have:=hr i hi (by omega)
 rw [he] at this
 generalize vs[i]=y at this
 refine G ?_ w N ρ vs H hs hl hr
 cases this with
 | c h=>cases h with
  | lst _ _ _ A c V hx hc hm=>omega
theorem getS {α:Type} {l:List α} {j:Nat} (h:j < l.length):∃ x,l[j]?=some x ∧ x ∈ l ∧ l.take (j + 1)=l.take j ++ [x] ∧ l.drop j=x :: l.drop (j + 1):=
 ⟨l[j],List.getElem?_eq_getElem h,List.getElem_mem h,(List.take_append_getElem h).symm,(List.getElem_cons_drop h).symm⟩
theorem nat_nonneg (n:Nat):(0 ≤ (n:Int))=True:=propext ⟨fun _=>trivial,fun _=>Int.natCast_nonneg n⟩
attribute [go_sem] List.filterMap_cons List.filterMap_nil idOf List.contains_cons List.contains_nil pick_next ne_eq nat_nonneg nat0 Int.toNat_natCast List.getElem?_map List.length_map Int.ofNat_lt Int.ofNat_le
def bsq:List UInt8 → List UInt8 → Bool
 | [],[]=>true
 | a :: l,b :: m=>(a.toNat == b.toNat) && bsq l m
 | _,_=>false
theorem bsq_eq:∀ a b:List UInt8,(a == b)=bsq a b
 | [],[]=>rfl
 | [],_ :: _=>rfl
 | _ :: _,[]=>rfl
 | a :: l,b :: m=>by
  have:(a.toNat == b.toNat)=(a == b):=by rw [Bool.eq_iff_iff,beq_iff_eq,beq_iff_eq];exact UInt8.toNat_inj
  rw [bsq,← bsq_eq l m,this];rfl
theorem bs_eq (a b:List UInt8):((ByteArray.mk a.toArray).toList == (ByteArray.mk b.toArray).toList)=bsq a b:=by
 rw [Go.ByteArray.toList_eq,Go.ByteArray.toList_eq,← bsq_eq]
theorem snapAll_opn (h:List ABlk):∀ cs:List CV,snapAll h (cs.map opn)=some (cs.map opn)
 | []=>rfl
 | c :: cs=>by
  have:snap h (opn c)=some (opn c):=by cases c <;> rfl
  simp only [List.map_cons,snapAll,this,snapAll_opn h cs]
theorem allIds_opn:∀ cs:List CV,allIds.all (cs.map opn)=[]
 | []=>rfl
 | c :: cs=>by
  have:allIds (opn c)=[]:=by cases c <;> rfl
  simp only [List.map_cons,allIds.all,this,allIds_opn cs,List.append_nil]
theorem notSl_opn:∀ cs:List CV,(cs.map opn).all notSl=true
 | []=>rfl
 | c :: cs=>by
  have:notSl (opn c)=true:=by cases c <;> rfl
  simp only [List.map_cons,List.all_cons,this,notSl_opn cs,Bool.and_self]
attribute [go_sem] bsq bs_eq snapAll_opn allIds_opn notSl_opn
def memOK2 (a:Array Oper) (rs:List Rec):Bool:=let T:=ancT a a.size;allPairs (fun i j=>(T.getD j 0).testBit i || memFree (recAt rs i) (recAt rs j)) a.size
theorem memOK_of2 {a:Array Oper} {rs:List Rec} (h:memOK2 a rs=true):memOK a rs=true:=by
 unfold memOK
 unfold memOK2 at h
 simp only [Bool.or_comm] at h ⊢
 simp only [Bool.or_eq_true]
 exact .inl h
def maskT:List Bool → List AV → List AV
 | true :: m,_ :: t=>.dead :: maskT m t
 | false :: m,x :: t=>x :: maskT m t
 | [],t=>t
 | _ :: _,[]=>[]
def setAll:List (Nat × AV) → List AV → List AV
 | [],t=>t
 | p :: V,t=>setAll V (t.set p.1 p.2)
def putH:List (Nat × ABlk) → List ABlk → List ABlk
 | [],h=>h
 | p :: B,h=>putH B (h.set p.1 p.2)
def stAt (q:Nat) (m:List Bool) (t:List AV) (h:List ABlk) (V:List (Nat × AV)) (B:List (Nat × ABlk)):St:=⟨setAll V (maskT m t),putH B (h.take q)⟩
theorem Lp.at [Globs] {G:Ctx} {K:List Fr} {t:List AV} {h:List ABlk} {c:Code} (T:TabOK G.P G.E) (k:Nat) (q:Nat) (hq:G.n ≤ q) (m:List Bool) {α:Type} (μ:α → Nat) (I:α → Prop) (V:α → List (Nat × AV)) (B:α → List (Nat × ABlk)) (a0:α) (h0:I a0) (hs:FitS q ⟨t,h⟩ (stAt q m t h (V a0) (B a0)))
  (round:∀ a,I a → vm G k (.code c) (.lp (fun s'=>∃ a',μ a' < μ a ∧ I a' ∧ FitS q s' (stAt q m t h (V a') (B a'))) :: K) (stAt q m t h (V a) (B a))):Lp G c K ⟨t,h⟩:=
 Lp.fit T k q hq μ I (fun a=>stAt q m t h (V a) (B a)) a0 h0 hs round
theorem maskT_true {m:List Bool} {x:AV} {t:List AV}:maskT (true :: m) (x :: t) = .dead :: maskT m t:=by rw [maskT]
theorem maskT_false {m:List Bool} {x:AV} {t:List AV}:maskT (false :: m) (x :: t)=x :: maskT m t:=by rw [maskT]
theorem maskT_nil {t:List AV}:maskT [] t=t:=by cases t <;> rw [maskT]
theorem setAll_nil {t:List AV}:setAll [] t=t:=by rw [setAll]
theorem setAll_cons {p:Nat × AV} {V:List (Nat × AV)} {t:List AV}:setAll (p :: V) t=setAll V (t.set p.1 p.2):=by rw [setAll]
theorem putH_nil {t:List ABlk}:putH [] t=t:=by rw [putH]
theorem putH_cons {p:Nat × ABlk} {V:List (Nat × ABlk)} {t:List ABlk}:putH (p :: V) t=putH V (t.set p.1 p.2):=by rw [putH]
theorem stAt_eq {q:Nat} {m:List Bool} {t:List AV} {h:List ABlk} {V:List (Nat × AV)} {B:List (Nat × ABlk)}:stAt q m t h V B=⟨setAll V (maskT m t),putH B (h.take q)⟩:=by rw [stAt]
attribute [go_sem] maskT_true maskT_false maskT_nil setAll_nil setAll_cons putH_nil putH_cons stAt_eq
def EndA (o:Option AV) (n:Nat) (js:List Nat) (h:List ABlk) (r:AV) (h':List ABlk):Prop:=∃ v,o=some v ∧ packOK n js h.length=true ∧ n ≤ h.length ∧ Le (ren (posOf n js) v) r ∧ r.sc (born h')=true ∧ packH n js h=h'
def EndB (n:Nat) (js:List Nat) (h:List ABlk) (v r:AV) (h':List ABlk):Prop:=packOK n js h.length=true ∧ n ≤ h.length ∧ Le (ren (posOf n js) v) r ∧ r.sc (born h')=true ∧ packH n js h=h'
theorem EndA_some {v:AV} {n:Nat} {js:List Nat} {h:List ABlk} {r:AV} {h':List ABlk}:EndA (some v) n js h r h'=EndB n js h v r h':=propext ⟨fun ⟨_,h1,h2⟩=>by cases h1;exact h2,fun h=>⟨_,rfl,h⟩⟩
def endA (E:Env) (rs:List ResultVar) (n:Nat) (js:List Nat) (r:AV) (h':List ABlk) (e:Exit) (s:St):Prop:=
 (e = .normal ∨ e = .ret) ∧ EndA (resA E rs s) n js s.h r h'
theorem Good.of_vmA [Globs] {P:Program} {E:Env} (T:TabOK P E) (k:Nat) (js:List Nat) {f:FuncId} {fn:Func} {c:Code} {args:List AV} {h h':List ABlk} {r:AV} (hf:P.funcs[f]?=some fn) (hb:fn.body=some c) (hn:(fn.name == "runtime.NumGoroutine")=false)
  (hv:vm ⟨P,E,h.length,endA E fn.results.toList h.length js r h'⟩ k (.code c) [] ⟨args ++ List.replicate (fn.ntmps - args.length) .und,h⟩):Good P f args h r h':=by
 refine Good.of_run2 T (fun v k=>packOK h.length js k.length=true ∧ h.length ≤ k.length ∧ Le (ren (posOf h.length js) v) r ∧ r.sc (born h')=true ∧ packH h.length js k=h') hf hb hn ?_ ((vm_run T k hv).turn fun e s1 X a w hX hq hs=>?_)
 ·rintro X a w v k hX ⟨h1,h2,h3,h4,rfl⟩ hs
  have h5:=hs.pack 1 h.length js (by rw [hX];exact Nat.le_refl _) h2 h1
  simp only [Ev.pack,List.take_succ_cons,List.take_zero,ren.all,List.length_singleton,Nat.sub_self,List.replicate_zero,List.append_nil] at h5
  obtain ⟨N,ρ,S⟩:=h5
  refine ⟨N,ρ,S.heap,⟨S.slots.len,fun i u hu=>?_,S.slots.glob⟩,?_,S.kept,S.defers⟩
  ·match i,hu with
   | 0,hu =>
    obtain ⟨x,hx,hr⟩:=S.slots.rep 0 _ rfl
    simp at hu;subst hu
    exact ⟨x,hx,h3.rep _ _ _ _ hr⟩
   | i + 1,hu=>simp at hu
  ·simp only [AV.sc.scAll,Bool.and_true];exact h4
 ·obtain ⟨he,v,hv,h1⟩:=hq
  exact ⟨_,hs,he,v,hv,h1⟩
attribute [go_sem] endA EndA_some EndB
end Go.Ev
end
section
open Go Go.Proofs Go.RowKit
namespace Go.Ev
theorem Good.enter {P:Program} {f:FuncId} {fn:Func} {c:Code} {args:List AV} {r:AV} (G:Good P f args [] r []) (hf:P.funcs[f]?=some fn) (hb:fn.body=some c) (hn:(fn.name == "runtime.NumGoroutine")=false)
  {w:World} {vs:List Value} (N:Nat → Prop) (hN:∀ b,N b → b < w.heap.size) (hg:GlobOK w N) (hl:args.length=vs.length) (hcl:AV.cl.clAll args=true)
  (hrep:∀ (i:Nat) (h1:i < args.length) (h2:i < vs.length),RepA w N (fun _=>default) args[i] vs[i]) :
  Calls P f vs.toArray w fun e w'=>∃ v,e = .returned v ∧ (∃ N' ρ,RepA w' N' ρ r v) ∧ Below w.heap.size w w':=by
 have H0:HeapOK N [] (fun _=>default) w:=⟨hN,fun i j hi=>by obtain ⟨⟨k,hk,_⟩,_⟩:=hi;simp at hk,fun i hi=>by obtain ⟨⟨k,hk,_⟩,_⟩:=hi;simp at hk,fun i k hk=>by simp at hk,fun i cs hk=>by simp at hk,hg⟩
 have hsc:AV.sc.scAll (born []) args=true:=AV.cl_sc.all args hcl _
 have hn':¬ fn.name = "runtime.NumGoroutine":=by simpa using hn
 refine (Good.calls G H0 hsc hl hrep (by simp [callFunc,go_sem,hf,hn',hb])).mono ?_
 rintro e w' ⟨v,rfl,⟨N',ρ',H',hr,K,_⟩⟩
 refine ⟨v,rfl,⟨N',ρ',hr⟩,K.os,K.tape,K.output,K.size,fun b hb=>K.rest b hb fun i hi=>?_⟩
 obtain ⟨⟨k,hk,_⟩,_⟩:=hi
 simp at hk
end Go.Ev
end
section
open Go Go.Proofs
namespace Go.Ev
structure Val where
 k:Int
 i:Int
 s:ByteArray
abbrev cI (n:Int):AV:=.c (.int .i64 n)
abbrev cB (b:Bool):AV:=.c (.bool b)
abbrev cS (s:ByteArray):AV:=.c (.str s)
def Val.cs (v:Val):List CV:=[.int .i64 v.k,.int .i64 v.i,.str v.s]
def Val.av (v:Val):AV:=.agg [cI v.k,cI v.i,cS v.s]
attribute [go_sem] Val.cs Val.av
def Val.ok (v:Val):Bool:=
 (v.k == 0 && v.i == 0 && v.s.size == 0) || (v.k == 1 && (v.i == 0 || v.i == 1) && v.s.size == 0) || (v.k == 2 && v.s.size == 0) || ((v.k == 3 || v.k == 4) && v.i == 0)
def Val.same (a b:Val):Bool:=a.k == b.k && a.i == b.i && a.s.toList == b.s.toList
def Val.lt (a b:Val):Bool:=decide (a.k < b.k) || (a.k == b.k && decide (a.i < b.i)) || (a.k == b.k && a.i == b.i && Op.bytesLess a.s.toList b.s.toList)
def Val.cmp (a b:Val):Int:=if a.lt b then -1 else if a.same b then 0 else 1
def I64 (n:Int):Prop:=-9223372036854775808 ≤ n ∧ n ≤ 9223372036854775807
theorem and_split (x y:BitVec 64):x=(x &&& y) ||| (x &&& ~~~y):=by
 ext j hj
 simp only [BitVec.getElem_or,BitVec.getElem_and,BitVec.getElem_not]
 cases x[j] <;> cases y[j] <;> rfl
theorem andNot_bv (x:BitVec 64):(x &&& ~~~1#64=0#64) ↔ (x=0#64 ∨ x=1#64):=by
 constructor
 ·intro h
  have e:=and_split x 1#64
  rw [h] at e
  have e2:x.toNat=x.toNat % 2:=by
   have:=congrArg BitVec.toNat e
   simpa [Nat.and_one_is_mod] using this
  have:x.toNat=0 ∨ x.toNat=1:=by omega
  rcases this with h | h
  ·left;exact BitVec.eq_of_toNat_eq (by simpa using h)
  ·right;exact BitVec.eq_of_toNat_eq (by simpa using h)
 ·rintro (rfl | rfl) <;> decide
theorem andNot_one (i:Int) (hi:I64 i):(bits BinOp.andNot IntKind.i64 i 1 != 0) = !(i == 0 || i == 1):=by
 unfold I64 at hi
 have h1:bits BinOp.andNot IntKind.i64 i 1=IntKind.i64.wrap ((BitVec.ofInt 64 i &&& ~~~1#64).toNat:Int):=rfl
 have hk:=andNot_bv (BitVec.ofInt 64 i)
 have hz:(bits BinOp.andNot IntKind.i64 i 1=0) ↔ (BitVec.ofInt 64 i &&& ~~~1#64)=0#64:=by
  rw [h1,IntKind.wrap_i64]
  generalize (BitVec.ofInt 64 i &&& ~~~1#64)=y
  have:=y.isLt
  constructor
  ·intro h;apply BitVec.eq_of_toNat_eq;simp;omega
  ·intro h;subst h;decide
 have hx:∀ m:Nat,m < 2 → (BitVec.ofInt 64 i=BitVec.ofNat 64 m ↔ i=m):=by
  intro m hm
  constructor
  ·intro h
   have:=congrArg BitVec.toNat h
   simp [BitVec.toNat_ofInt] at this
   omega
  ·intro h;subst h;apply BitVec.eq_of_toNat_eq;simp
 have h0:=hx 0 (by omega)
 have h2:=hx 1 (by omega)
 rw [hk] at hz
 by_cases a:i=0
 ·subst a;decide
 ·by_cases b:i=1
  ·subst b;decide
  ·have:¬ bits BinOp.andNot IntKind.i64 i 1=0:=by
    rw [hz];rintro (h | h)
    ·exact a (h0.1 h)
    ·exact b (h2.1 h)
   rw [show (i == 0)=false from beq_eq_false_iff_ne.2 a,show (i == 1)=false from beq_eq_false_iff_ne.2 b,show (bits BinOp.andNot IntKind.i64 i 1 != 0)=true from bne_iff_ne.2 this];rfl
theorem str_empty (s:ByteArray):(s.toList == (⟨#[]⟩:ByteArray).toList)=(s.size == 0):=by
 rw [Bool.eq_iff_iff,beq_iff_eq,beq_iff_eq,Go.ByteArray.toList_eq,Go.ByteArray.toList_eq]
 rcases s with ⟨⟨l⟩⟩
 show l=[] ↔ l.length=0
 cases l <;> simp
attribute [go_sem] str_empty
theorem value_Check (v:Val) (hi:I64 v.i):Good Tryz.prog 159 [v.av] [] (cI (if v.ok then 0 else 1)) []:=by
 have ha:=andNot_one v.i hi
 refine Good.of_vmQ TT 4000 Tryz.func159 rfl rfl ?_
 unfold Tryz.f159
 simp only [go_sem,go_sem_proc]
 repeat' first | (refine vm_sym (by simp only [go_sem]) ?_ ?_ <;> intro hg <;> simp only [go_sem,hg,ha,go_sem_proc]) | (refine vm_br ?_ ?_ <;> intro hg <;> simp only [go_sem,hg,ha,go_sem_proc])
 all_goals refine Le.of_eq (congrArg cI ?_)
 all_goals simp_all [Val.ok]
 all_goals first | omega | (refine ⟨⟨⟨fun _=>?_,fun _=>?_⟩,fun _=>?_⟩,fun _=>?_⟩ <;> omega)
theorem ref_Check (v:Val):Good Tryz.prog 70 [v.av] [] (cI (if v.ok then 0 else 1)) []:=by
 refine Good.of_vmQ TT 4000 Tryz.func70 rfl rfl ?_
 unfold Tryz.f70
 simp only [go_sem,go_sem_proc]
 repeat' first | (refine vm_sym (by simp only [go_sem]) ?_ ?_ <;> intro hg <;> simp only [go_sem,hg,go_sem_proc]) | (refine vm_br ?_ ?_ <;> intro hg <;> simp only [go_sem,hg,go_sem_proc])
 all_goals refine Le.of_eq (congrArg cI ?_)
 all_goals simp_all [Val.ok]
def checkRowS (l:List Val):Int:=if l.any (fun v=>!v.ok) then 1 else if 64 < l.length then 2 else 0
def rowC (l:List Val):CV:=.lst 3 false (l.map Val.cs)
attribute [go_sem] rowC
theorem ref_CheckRow (l:List Val):Good Tryz.prog 38 [.c (rowC l)] [] (cI (checkRowS l)) []:=by
 refine Good.bound (xs:=l.map Val.cs) (List.mem_singleton.2 rfl) fun hl=>?_
 rw [List.length_map] at hl
 refine Good.of_vmQ TT 4000 Tryz.func38 rfl rfl ?_
 unfold Tryz.f38
 simp only [go_sem,go_sem_proc]
 refine Lp.fit TT 4000 0 (Nat.le_refl _) (fun j:Nat=>l.length - j) (fun j=>j ≤ l.length ∧ (l.take j).any (fun v=>!v.ok)=false)
  (fun j=>⟨[.c (rowC l),.und,cI 0,.und,.dead,.dead,.c (rowC l),cI l.length,cI j] ++ List.replicate 12 .dead,[]⟩) 0 ⟨Nat.zero_le _,by simp⟩ ?_ ?_
 ·simp only [go_sem,go_sem_proc]
 ·rintro j ⟨i1,i2⟩
  rcases Nat.lt_or_ge j l.length with hlt | hge
  ·obtain ⟨x,hx,hm,ht,hd⟩:=getS hlt
   have hw:=wrap_succ (j:=j) (by omega)
   simp only [go_sem,hlt,hx,go_sem_proc]
   refine Cl.pure TT 4000 (ref_Check x) rfl rfl ?_
   simp only [go_sem,hw,go_sem_proc]
   cases hk:x.ok
   ·simp only [go_sem,hk,Bool.false_eq_true,go_sem_proc]
    refine Le.of_eq (congrArg cI ?_)
    have:l.any (fun v=>!v.ok)=true:=List.any_eq_true.2 ⟨x,hm,by rw [hk];rfl⟩
    simp [checkRowS,this]
   ·simp only [go_sem,hk,hw,go_sem_proc]
    exact ⟨j + 1,by omega,⟨by omega,by rw [ht,List.any_append,i2];simp [hk]⟩,Fit1.of_eq rfl⟩
  ·simp only [go_sem,Nat.not_lt.2 hge,go_sem_proc]
   have:j=l.length:=by omega
   subst this
   rw [List.take_length] at i2
   repeat' first | (refine vm_sym (by simp only [go_sem]) ?_ ?_ <;> intro hg <;> simp only [go_sem,hg,go_sem_proc]) | (refine vm_br ?_ ?_ <;> intro hg <;> simp only [go_sem,hg,go_sem_proc])
   all_goals refine Le.of_eq (congrArg cI ?_)
   all_goals simp [checkRowS,i2]
   all_goals simp at hg
   all_goals omega
theorem ref_Int1 (n:Int):Good Tryz.prog 36 [cI n] [] (Val.mk 2 n ⟨#[]⟩).av []:=by
 refine Good.of_vmQ TT 4000 Tryz.func36 rfl rfl ?_
 unfold Tryz.f36
 simp only [go_sem,go_sem_proc]
end Go.Ev
end
section
open Go Go.Proofs
namespace Go.Ev
def cmpL:List UInt8 → List UInt8 → Int
 | [],[]=>0
 | [],_ :: _=>-1
 | _ :: _,[]=>1
 | a :: x,b :: y=>if a < b then -1 else if a == b then cmpL x y else 1
theorem cmpL_less:∀ x y:List UInt8,cmpL x y=if Op.bytesLess x y then -1 else if x == y then 0 else 1
 | [],[]=>rfl
 | [],_ :: _=>rfl
 | _ :: _,[]=>rfl
 | a :: x,b :: y=>by
  simp only [cmpL,Op.bytesLess,cmpL_less x y]
  by_cases h1:a < b
  ·simp [h1]
  ·by_cases h2:a=b
   ·subst h2;simp [h1]
   ·simp [h1,h2]
def cmpF (x y:List UInt8):Int:=match (List.range (min x.length y.length)).find? fun i=>x.getD i 0 != y.getD i 0 with
 | some i=>if x.getD i 0 < y.getD i 0 then -1 else 1
 | none=>if x.length < y.length then -1 else if x.length > y.length then 1 else 0
theorem cmpF_eq:∀ x y:List UInt8,cmpF x y=cmpL x y
 | [],[]=>rfl
 | [],b :: y=>by simp [cmpF,cmpL]
 | a :: x,[]=>by simp [cmpF,cmpL]
 | a :: x,b :: y=>by
  have ih:=cmpF_eq x y
  unfold cmpF at ih ⊢
  rw [cmpL,← ih]
  simp only [List.length_cons,Nat.succ_min_succ,List.range_succ_eq_map,List.find?_cons,List.getD_cons_zero,List.find?_map]
  by_cases h:a=b
  ·subst h
   simp only [bne_self_eq_false,UInt8.lt_irrefl,if_false,beq_self_eq_true,if_true]
   have e:((fun i=>(a :: x).getD i 0 != (a :: y).getD i 0) ∘ Nat.succ)=fun i=>x.getD i 0 != y.getD i 0:=by funext i;simp
   rw [e]
   cases (List.range (min x.length y.length)).find? fun i=>x.getD i 0 != y.getD i 0 with
   | none=>simp
   | some i=>simp
  ·have h':(a != b)=true:=bne_iff_ne.2 h
   simp [h',h]
theorem ba_get (a:ByteArray) (i:Nat):a[i]! = a.data.toList.getD i 0:=by
 rcases a with ⟨⟨l⟩⟩
 show (ByteArray.mk ⟨l⟩)[i]! = l.getD i 0
 by_cases h:i < l.length
 ·rw [getElem!_pos (ByteArray.mk ⟨l⟩) i h]
  simp [List.getD,List.getElem?_eq_getElem h]
  rfl
 ·rw [getElem!_neg (ByteArray.mk ⟨l⟩) i h]
  simp [List.getD,List.getElem?_eq_none (Nat.le_of_not_lt h)]
  rfl
theorem cmp_str (a b:ByteArray):Extern.BytealgCompare.cmp a b=if Op.bytesLess a.toList b.toList then -1 else if a.toList == b.toList then 0 else 1:=by
 rw [← cmpL_less,← cmpF_eq,Go.ByteArray.toList_eq,Go.ByteArray.toList_eq]
 unfold Extern.BytealgCompare.cmp cmpF
 simp only [ba_get]
 rfl
theorem cmpstring_good (a b:ByteArray) (h:List ABlk):Good Tryz.prog 182 [cS a,cS b] h (cI (Extern.BytealgCompare.cmp a b)) h:=
 Good.ext Tryz.func182 rfl rfl (by rfl) (by rfl) rfl fun w N ρ vs hl hr=>compare_run _ _ _ w N ρ vs hl hr
def strC (a b:ByteArray):Int:=if Op.bytesLess a.toList b.toList then -1 else if a.toList == b.toList then 0 else 1
theorem CompareString_good (a b:ByteArray):Good Tryz.prog 153 [cS a,cS b] [] (cI (strC a b)) []:=by
 refine Good.of_vmQ TT 4000 Tryz.func153 rfl rfl ?_
 unfold Tryz.f153
 simp only [go_sem,go_sem_proc]
 refine Cl.of TT 4000 (cmpstring_good a b []) ?_
 simp only [go_sem,go_sem_proc]
 exact Le.of_eq (congrArg cI (cmp_str a b))
theorem stringsCompare (a b:ByteArray):Good Tryz.prog 97 [cS a,cS b] [] (cI (strC a b)) []:=by
 refine Good.of_vmQ TT 4000 Tryz.func97 rfl rfl ?_
 unfold Tryz.f97
 simp only [go_sem,go_sem_proc]
 (refine Cl.pure TT 4000 (CompareString_good a b) rfl rfl ?_;simp only [go_sem,go_sem_proc])
def cmpI (a b:Int):Int:=if a < b then -1 else if b < a then 1 else 0
theorem isNaN_int (n:Int):Good Tryz.prog 151 [cI n] [] (cB false) []:=by
 refine Good.of_vmQ TT 4000 Tryz.func151 rfl rfl ?_
 unfold Tryz.f151
 simp only [go_sem,bne_self_eq_false,go_sem_proc]
theorem isNaN_int64 (n:Int):Good Tryz.prog 152 [cI n] [] (cB false) []:=by
 refine Good.of_vmQ TT 4000 Tryz.func152 rfl rfl ?_
 unfold Tryz.f152
 simp only [go_sem,bne_self_eq_false,go_sem_proc]
theorem cmpCompare_int (a b:Int):Good Tryz.prog 95 [cI a,cI b] [] (cI (cmpI a b)) []:=by
 refine Good.of_vmQ TT 4000 Tryz.func95 rfl rfl ?_
 unfold Tryz.f95
 simp only [go_sem,go_sem_proc]
 repeat' first | (refine vm_sym (by simp only [go_sem]) ?_ ?_ <;> intro hg <;> simp only [go_sem,hg,go_sem_proc]) | (refine vm_br ?_ ?_ <;> intro hg <;> simp only [go_sem,hg,go_sem_proc]) | (refine Cl.pure TT 4000 (isNaN_int a) rfl rfl ?_;simp only [go_sem,go_sem_proc]) | (refine Cl.pure TT 4000 (isNaN_int b) rfl rfl ?_;simp only [go_sem,go_sem_proc])
 all_goals refine Le.of_eq (congrArg cI ?_)
 all_goals simp only [cmpI,decide_eq_true_eq,decide_eq_false_iff_not] at *
 all_goals (repeat' split) <;> omega
theorem cmpCompare_int64 (a b:Int):Good Tryz.prog 96 [cI a,cI b] [] (cI (cmpI a b)) []:=by
 refine Good.of_vmQ TT 4000 Tryz.func96 rfl rfl ?_
 unfold Tryz.f96
 simp only [go_sem,go_sem_proc]
 repeat' first | (refine vm_sym (by simp only [go_sem]) ?_ ?_ <;> intro hg <;> simp only [go_sem,hg,go_sem_proc]) | (refine vm_br ?_ ?_ <;> intro hg <;> simp only [go_sem,hg,go_sem_proc]) | (refine Cl.pure TT 4000 (isNaN_int64 a) rfl rfl ?_;simp only [go_sem,go_sem_proc]) | (refine Cl.pure TT 4000 (isNaN_int64 b) rfl rfl ?_;simp only [go_sem,go_sem_proc])
 all_goals refine Le.of_eq (congrArg cI ?_)
 all_goals simp only [cmpI,decide_eq_true_eq,decide_eq_false_iff_not] at *
 all_goals (repeat' split) <;> omega
def orS:List Int → Int
 | []=>0
 | n :: l=>if n ≠ 0 then n else orS l
def intC (n:Int):List CV:=[.int .i64 n]
attribute [go_sem] intC
theorem cmpOr_int (l:List Int):Good Tryz.prog 94 [.c (.lst 1 false (l.map intC))] [] (cI (orS l)) []:=by
 refine Good.bound (xs:=l.map intC) (List.mem_cons_self ..) fun hl=>?_
 rw [List.length_map] at hl
 refine Good.of_vmQ TT 4000 Tryz.func94 rfl rfl ?_
 unfold Tryz.f94
 simp only [go_sem,go_sem_proc]
 refine Lp.fit TT 4000 0 (Nat.le_refl _) (fun j:Nat=>l.length - j) (fun j=>j ≤ l.length ∧ orS l=orS (l.drop j))
  (fun j=>⟨[.c (.lst 1 false (l.map intC)),.und,cI 0,cI 0,.und,.dead,.c (.lst 1 false (l.map intC)),cI l.length,cI j] ++ List.replicate 9 .dead,[]⟩) 0 ⟨Nat.zero_le _,by simp⟩ ?_ ?_
 ·simp only [go_sem,go_sem_proc]
 ·rintro j ⟨i1,i2⟩
  rcases Nat.lt_or_ge j l.length with hlt | hge
  ·obtain ⟨x,hx,hm,ht,hd⟩:=getS hlt
   have hw:=wrap_succ (j:=j) (by omega)
   rw [hd] at i2
   simp only [go_sem,hlt,hx,go_sem_proc]
   repeat' first | (refine vm_sym (by simp only [go_sem]) ?_ ?_ <;> intro hg <;> simp only [go_sem,hg,hw,go_sem_proc]) | (refine vm_br ?_ ?_ <;> intro hg <;> simp only [go_sem,hg,hw,go_sem_proc])
   ·simp only [bne_iff_ne,ne_eq] at hg
    exact Le.of_eq (congrArg cI (by rw [i2,orS,if_pos hg]))
   ·have hg':x=0:=by simpa using hg
    exact ⟨j + 1,by omega,⟨by omega,by rw [i2,orS,if_neg (by simp [hg'])]⟩,Fit1.of_eq rfl⟩
  ·simp only [go_sem,Nat.not_lt.2 hge,go_sem_proc]
   exact Le.of_eq (congrArg cI (by rw [i2,List.drop_of_length_le hge];rfl))
theorem cmp_or (a b:Val):orS [cmpI a.k b.k,cmpI a.i b.i,strC a.s b.s]=a.cmp b:=by
 unfold Val.cmp Val.lt Val.same cmpI strC orS orS orS orS
 by_cases h1:a.k < b.k
 ·simp [h1]
 ·by_cases h2:b.k < a.k
  ·have:(a.k == b.k)=false:=beq_eq_false_iff_ne.2 (by omega)
   simp [h1,h2,this]
  ·have e1:(a.k == b.k)=true:=beq_iff_eq.2 (by omega)
   by_cases h3:a.i < b.i
   ·simp [h1,h2,e1,h3]
   ·by_cases h4:b.i < a.i
    ·have:(a.i == b.i)=false:=beq_eq_false_iff_ne.2 (by omega)
     simp [h1,h2,e1,h3,h4,this]
    ·have e2:(a.i == b.i)=true:=beq_iff_eq.2 (by omega)
     simp only [h1,h2,h3,h4,e1,e2,if_false,decide_false,Bool.true_and,Bool.false_or,ne_eq,not_true_eq_false]
     by_cases h5:Op.bytesLess a.s.toList b.s.toList=true
     ·simp [h5]
     ·by_cases h6:(a.s.toList == b.s.toList)=true
      ·simp [h5,h6]
      ·simp [h5,h6]
theorem value_Compare (a b:Val):Good Tryz.prog 67 [a.av,b.av] [] (cI (a.cmp b)) []:=by
 refine Good.of_vmQ TT 4000 Tryz.func67 rfl rfl ?_
 unfold Tryz.f67
 simp only [go_sem,go_sem_proc]
 refine Dr.of TT (by kernel_rfl) [(95,[cI a.k,cI b.k],cI (cmpI a.k b.k)),(96,[cI a.i,cI b.i],cI (cmpI a.i b.i)),(97,[cS a.s,cS b.s],cI (strC a.s b.s)),(94,[.c (.lst 1 false ([cmpI a.k b.k,cmpI a.i b.i,strC a.s b.s].map intC))],cI (orS [cmpI a.k b.k,cmpI a.i b.i,strC a.s b.s]))]
  ⟨⟨cmpCompare_int _ _,rfl⟩,⟨cmpCompare_int64 _ _,rfl⟩,⟨stringsCompare _ _,rfl⟩,⟨cmpOr_int _,rfl⟩,trivial⟩ ?_
 simp only [go_sem,go_sem_proc]
 refine DEnd.of TT 4000 (by kernel_rfl) ?_
 simp only [go_sem,go_sem_proc]
 exact Le.of_eq (congrArg cI (cmp_or a b))
theorem value_Same (a b:Val):Good Tryz.prog 127 [a.av,b.av] [] (cB (a.same b)) []:=by
 refine Good.of_vmQ TT 4000 Tryz.func127 rfl rfl ?_
 unfold Tryz.f127
 simp only [go_sem,go_sem_proc]
 exact Le.of_eq (congrArg cB (by rw [Val.same,Bool.and_assoc]))
end Go.Ev
end
