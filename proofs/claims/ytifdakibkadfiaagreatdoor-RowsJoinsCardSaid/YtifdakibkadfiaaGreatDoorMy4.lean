import Derived.Test.YtifdakibkadfiaaGreatDoorMr1
import Derived.Test.YtifdakibkadfiaaGreatDoorMs1
import Derived.Test.YtifdakibkadfiaaGreatDoorMy1
set_option linter.all false
set_option maxRecDepth 100000
set_option maxHeartbeats 8000000
section
open Go Go.Proofs Go.RowKit
namespace Go.Ev
theorem Good.zlO {P:Program} {f:FuncId} {args:List AV} {h h1:List zf} (sz:Nat) (e:TypeId) (G:Good P f args h (.c .nl) h1):Good P f args h (.sl h1.length 0 0) (h1 ++ [.rows sz e []]):=fun w N ρ vs H hs hl hr =>
 (G w N ρ vs H hs hl hr).mono fun v w' ⟨⟨N',ρ',H',hr',K,hsc⟩⟩=>by
  have hf:kA h1 h1.length:=.inl rfl
  obtain ⟨H1,K1⟩:=H'.new (k:=.rows sz e []) (p:=⟨0,0,0,sz,true⟩) hf (Made.refl w') (fun h=>by cases h) (by simp) rfl ⟨rfl,by simp,.inl ⟨rfl,rfl⟩⟩
  have hput1:qW h1 h1.length (.rows sz e [])=h1 ++ [.rows sz e []]:=by unfold qW;rw [if_neg (Nat.lt_irrefl _)]
  rw [hput1] at H1 K1
  cases hr' with
  | c hr' =>
   cases hr'
   exact ⟨⟨N',_,H1,.sn _ (by simp),K.trans K1,by simp [AV.sc,born]⟩⟩
abbrev zc3:List CV:=[.int .i64 0,.int .i64 0,.str ⟨#[]⟩]
theorem zhG (n:Nat) (hn:n ≤ 1000000):Good Tryz.prog 101 [.c .nl,cI n] [] (.sl 0 0 0) [.rows 3 26 (List.replicate n zc3)]:=by
 by_cases h0:n=0
 ·subst h0
  have:Good Tryz.prog 101 [.c .nl,cI 0] [] (.c .nl) []:=by
   refine Good.zg TT 4000 Tryz.func101 rfl rfl ?_
   unfold Tryz.f101
   have hw:IntKind.wrap .i64 0=0:=qd (by omega) (by omega)
   simp only [go_sem,hw,Int.sub_self,Int.sub_zero,Int.lt_irrefl,gt_iff_lt,go_sem_proc]
   first | done | exact Le.refl _
  exact this.zlO 3 26
 ·have hw0:IntKind.wrap .i64 (0 - 0)=0:=qd (by omega) (by omega)
  have hw1:IntKind.wrap .i64 ((n:Int) - 0)=n:=by rw [Int.sub_zero];exact qd (by omega) (by omega)
  have c1:((n:Int) < 0)=False:=eq_false (by omega)
  have c2:((0:Int) < (n:Int))=True:=eq_true (by omega)
  have c3:n * 32 ≤ 140737488355328:=by omega
  refine Good.zlk TT 4000 [1] Tryz.func101 rfl rfl ?_
  unfold Tryz.f101
  have hwz:IntKind.wrap .i64 0=0:=qd (by omega) (by omega)
  rw [Int.sub_zero] at hw1
  simp only [go_sem,hwz,Int.sub_self,Int.sub_zero,hw1,c1,c2,c3,Int.toNat_natCast,gt_iff_lt,go_sem_proc]
  exact ⟨rfl,rfl⟩
def VB (l:List (List Val)):Nat:=(l.map List.length).sum
theorem X4 {l:List (List Val)} {j:Nat} {x:List Val} (ht:l.take (j + 1)=l.take j ++ [x]):VB (l.take (j + 1))=VB (l.take j) + x.length:=by
 unfold VB;rw [ht];simp
theorem zad:∀ (l:List (List Val)) (j:Nat),VB (l.take j) ≤ VB l
 | [],j=>by simp
 | a :: l,0=>by simp [VB]
 | a :: l,j + 1=>by have:=zad l j;unfold VB at this ⊢;simp only [List.take_succ_cons,List.map_cons,List.sum_cons];omega
theorem QW (l:List (List Val)):l.flatten.length=VB l:=by unfold VB;rw [List.length_flatten]
theorem zcR (l:List (List Val)) (hl:l.length ≤ 1000000) (hn:VB l ≤ 1000000):Good Tryz.prog 74 [.c (qD l)] [] (.c (qk l.flatten)) []:=by
 refine Good.zg TT 4000 Tryz.func74 rfl rfl ?_
 unfold Tryz.f74
 simp only [go_sem,qD,List.length_map,go_sem_proc]
 refine Lp.at TT 4000 1 (Nat.le_of_ble_eq_true rfl) [false,false,false,true,false,true,false,false,false,false,false,true,true,true,true,true,true,true,true,true,true,true,true] (fun j:Nat=>l.length - j) (fun j=>j ≤ l.length) (fun j=>[(3,cI (VB (l.take j))),(11,cI j)]) (fun _=>[]) (0) (Nat.zero_le _) ?_ ?_
 ·simp only [go_sem,go_sem_proc]
  first | done | exact zq.of_eq rfl
 ·rintro j i1
  rcases Nat.lt_or_ge j l.length with hlt | hge
  ·obtain ⟨x,hx,hm,ht,hd⟩:=vj hlt
   have hw:=zh (j:=j) (by omega)
   have hs:=X4 ht
   have hsl:=zad l (j + 1)
   have hw2:IntKind.wrap .i64 ((VB (l.take j):Int) + (x.length:Int))=((VB (l.take (j + 1)):Nat):Int):=by rw [qd (by omega) (by omega),hs];rfl
   have c1:(((VB (l.take (j + 1)):Nat):Int) < 0)=False:=eq_false (by omega)
   simp only [go_sem,hlt,hx,hw,hw2,c1,List.length_map,go_sem_proc]
   exact ⟨j + 1,by omega,by omega,zq.of_eq rfl,zq.of_eq rfl⟩
  ·have:j=l.length:=by omega
   subst this
   simp only [go_sem,Nat.lt_irrefl,List.take_length,go_sem_proc]
   refine Cl.frame TT 4000 [] (zhG (VB l) hn) rfl (by simp only [go_sem,go_sem_proc]) rfl (Nat.zero_le _) ?_
   simp only [go_sem,go_sem_proc]
   refine Lp.j5 1 0 ?_
   simp only [go_sem,j5,go_sem_proc]
   refine Lp.atP TT 4000 1 (Nat.le_of_ble_eq_true rfl) [false,false,false,false,false,false,true,false,true,false,false,false,false,false,false,false,false,false,false,false,false,false,false,false,false,false,false,true,true,true,true,true,true,true,true] (fun j:Nat=>l.length - j) (fun j=>j ≤ l.length) (fun j=>[(24,.dead),(6,.sl 1 0 (VB (l.take j))),(27,cI j)]) (fun j=>[.rows 3 26 ((l.take j).flatten.map Val.cs)]) [1] (0) (Nat.zero_le _) ?_ ?_
   ·simp only [go_sem,go_sem_proc]
    exact ⟨rfl,zq.of_eq rfl,rfl⟩
   ·rintro j k1
    rcases Nat.lt_or_ge j l.length with hlt | hge
    ·obtain ⟨x,hx,hm,ht,hd⟩:=vj hlt
     have hw:=zh (j:=j) (by omega)
     have hs:=X4 ht
     have hsl:=zad l (j + 1)
     have hfl:(l.take j).flatten.length=VB (l.take j):=QW _
     have hal3:∀ x:List Val,(x.map Val.cs).all (fun y=>y.length == 3)=true:=fun x=>List.all_eq_true.2 fun y hy=>by
      obtain ⟨z,_,rfl⟩:=List.mem_map.1 hy
      rfl
     have hsz:(VB (l.take j) + x.length) * 32 ≤ 140737488355328:=by omega
     have hnx:(l.take j).flatten.map Val.cs ++ x.map Val.cs=(l.take (j + 1)).flatten.map Val.cs:=by rw [ht,List.flatten_append,List.map_append];simp
     simp only [go_sem,hlt,hx,hw,hfl,hal3,hsz,List.length_map,Nat.zero_add,hnx,go_sem_proc]
     exact ⟨j + 1,[2],by omega,by omega,rfl,⟨zq.of_eq (by rw [hs];rfl),zq.of_eq rfl⟩,rfl⟩
    ·have:j=l.length:=by omega
     subst this
     have hk:List.take (VB l) (List.map Val.cs l.flatten)=List.map Val.cs l.flatten:=List.take_of_length_le (by rw [List.length_map,QW];exact Nat.le_refl _)
     simp only [go_sem,Nat.lt_irrefl,List.length_map,QW,Nat.zero_add,Nat.le_refl,List.take_length,hk,qk,go_sem_proc]
     first | done | exact Le.refl _
theorem zdM (l:List (List Val)) (hl:l.length ≤ 1000000) (hn:VB l ≤ 1000000):Good Tryz.prog 42 [.c (qD l)] [] (.c (qk l.flatten)) []:=by
 have h:=zcR l hl hn
 refine Good.zg TT 4000 Tryz.func42 rfl rfl ?_
 unfold Tryz.f42
 simp only [go_sem,go_sem_proc]
 refine Cl.pure TT 4000 h rfl rfl ?_
 simp only [go_sem,go_sem_proc]
 first | done | exact Le.refl _
def wC (n:Int):List Val:=List.replicate (max n 0).toNat zeroV
theorem Jn (n:Int) (hn:n ≤ 1000000):Good Tryz.prog 43 [cI n] [] (.c (qk (wC n))) []:=by
 have h0:(0:Int) ≤ max n 0:=by omega
 have h1:(max n 0).toNat ≤ 1000000:=by omega
 have h2:32 * (max n 0).toNat ≤ 281474976710656:=by omega
 have h3:max n 0 ≤ 9223372036854775807:=by omega
 refine Good.zg TT 4000 Tryz.func43 rfl rfl ?_
 unfold Tryz.f43
 generalize hm:max n 0=m at h0 h1 h2 h3
 simp only [go_sem,hm,h0,h2,h3,List.length_replicate,Nat.zero_add,Nat.le_refl,go_sem_proc]
 have hk:List.take m.toNat (List.replicate m.toNat zc3)=(wC n).map Val.cs:=by
  rw [List.take_of_length_le (by simp)]
  unfold wC;rw [hm,List.map_replicate];rfl
 simp only [go_sem,hk,qk,go_sem_proc]
 first | done | exact Le.refl _
theorem Q8 (a b:List Val) (h:a.length + b.length ≤ 1000000):Good Tryz.prog 45 [.c (qk a),.c (qk b)] [] (.c (qk (a ++ b))) []:=by
 have hal3:∀ x:List Val,(x.map Val.cs).all (fun y=>y.length == 3)=true:=fun x=>List.all_eq_true.2 fun y hy=>by
  obtain ⟨z,_,rfl⟩:=List.mem_map.1 hy
  rfl
 have h1:a.length * 32 ≤ 140737488355328:=by omega
 have h2:(a.length + b.length) * 32 ≤ 140737488355328:=by omega
 refine Good.zg TT 4000 Tryz.func45 rfl rfl ?_
 unfold Tryz.f45
 simp only [go_sem,hal3,List.length_map,Nat.zero_add,h1,h2,List.length_append,Nat.le_refl,qk,go_sem_proc]
 have hk:List.take (a.length + b.length) (List.map Val.cs a ++ List.map Val.cs b)=List.map Val.cs (a ++ b):=by
  rw [List.take_of_length_le (by simp),List.map_append]
 simp only [go_sem,hk,go_sem_proc]
 first | done | exact Le.refl _
end Go.Ev
end
section
open Go Go.Proofs Go.RowKit
namespace Go.Ev
def KJ (T:List Val → List Val → Bool) (left:Bool) (nb:List Val) (b:List (List Val)) (x:List Val):List (List Val):=
 if left && (b.filter (T x)).isEmpty then [x ++ nb] else (b.filter (T x)).map (x ++ ·)
def Yy (T:List Val → List Val → Bool) (left right:Bool) (na nb:List Val) (a b:List (List Val)):List (List Val):=
 a.flatMap (KJ T left nb b) ++ if right then (b.filter fun y=>!(a.any fun x=>T x y)).map (na ++ ·) else []
def x6 (T:List Val → List Val → Bool) (a:List (List Val)) (x:List Val) (b:List (List Val)) (i:Nat):List (List CV):=
 (b.take i).map (fun y=>[CV.bool (a.any (T · y) || T x y)]) ++ (b.drop i).map (fun y=>[CV.bool (a.any (T · y))])
theorem Zy (T:List Val → List Val → Bool) (a:List (List Val)) (x:List Val) (b:List (List Val)) (i:Nat):(x6 T a x b i).length=b.length:=by
 unfold x6;simp;omega
theorem V8 (T:List Val → List Val → Bool) (a:List (List Val)) (x:List Val) (b:List (List Val)):x6 T a x b 0=b.map fun y=>[CV.bool (a.any (T · y))]:=by simp [x6]
theorem zfG (T:List Val → List Val → Bool) (a:List (List Val)) (x:List Val) (b:List (List Val)):x6 T a x b b.length=b.map fun y=>[CV.bool ((a ++ [x]).any (T · y))]:=by
 simp [x6,List.any_append]
theorem xu {T:List Val → List Val → Bool} {a:List (List Val)} {x:List Val} {b:List (List Val)} {i:Nat} {y:List Val} (hy:b[i]?=some y):(x6 T a x b i)[i]?=some [CV.bool (a.any (T · y))]:=by
 have hl:=(List.getElem?_eq_some_iff.1 hy).1
 unfold x6
 rw [List.getElem?_append_right (by simp;omega)]
 simp only [List.length_map,List.length_take,Nat.min_eq_left (Nat.le_of_lt hl),Nat.sub_self,List.getElem?_map,List.getElem?_drop,Nat.add_zero,hy,Option.map_some]
theorem wh {T:List Val → List Val → Bool} {a:List (List Val)} {x:List Val} {b:List (List Val)} {i:Nat} {y:List Val} (hy:b[i]?=some y) :
  x6 T a x b (i + 1)=(x6 T a x b i).set i [CV.bool (a.any (T · y) || T x y)]:=by
 have hl:=(List.getElem?_eq_some_iff.1 hy).1
 have hd:b.drop i=y :: b.drop (i + 1):=by rw [← List.getElem_cons_drop hl];rw [(List.getElem?_eq_some_iff.1 hy).2]
 have ht:b.take (i + 1)=b.take i ++ [y]:=by rw [List.take_succ,hy];rfl
 unfold x6
 rw [List.set_append_right _ _ (by simp;omega),ht,hd]
 simp only [List.length_map,List.length_take,Nat.min_eq_left (Nat.le_of_lt hl),Nat.sub_self,List.map_cons,List.set_cons_zero,List.map_append,List.map_nil,List.append_assoc,List.singleton_append]
theorem VM {T:List Val → List Val → Bool} {a:List (List Val)} {x:List Val} {b:List (List Val)} {i:Nat} {y:List Val} (hy:b[i]?=some y) (h:T x y=false):x6 T a x b (i + 1)=x6 T a x b i:=by
 rw [wh hy,h,Bool.or_false]
 have:=xu (T:=T) (a:=a) (x:=x) hy
 obtain ⟨hl,he⟩:=List.getElem?_eq_some_iff.1 this
 rw [← he];exact List.set_getElem_self hl
theorem zia (T:List Val → List Val → Bool) (left:Bool) (nb:List Val) (b:List (List Val)) (x:List Val):(KJ T left nb b x).length ≤ b.length + 1:=by
 unfold KJ;split
 ·simp
 ·rw [List.length_map];exact Nat.le_succ_of_le (List.length_filter_le ..)
theorem xo (T:List Val → List Val → Bool) (left:Bool) (nb:List Val) (b:List (List Val)):∀ a:List (List Val),(a.flatMap (KJ T left nb b)).length ≤ a.length * (b.length + 1)
 | []=>by simp
 | x :: a=>by
  have h1:=zia T left nb b x
  have h2:=xo T left nb b a
  rw [List.flatMap_cons,List.length_append,List.length_cons,Nat.add_mul,Nat.one_mul];omega
theorem zhj (T:List Val → List Val → Bool) (left right:Bool) (na nb:List Val) (a b:List (List Val)):(Yy T left right na nb a b).length ≤ a.length * (b.length + 1) + b.length:=by
 unfold Yy
 have h1:=xo T left nb b a
 rw [List.length_append]
 split
 ·have:=List.length_filter_le (fun y=>!(a.any fun x=>T x y)) b
  rw [List.length_map];omega
 ·simp only [List.length_nil];omega
end Go.Ev
end
section
open Go Go.Proofs Go.RowKit
namespace Go.Ev
abbrev jU:ByteArray:=⟨#[108,101,102,116]⟩
abbrev jz:ByteArray:=⟨#[102,117,108,108]⟩
abbrev kJ:ByteArray:=⟨#[114,105,103,104,116]⟩
abbrev kM:ByteArray:=⟨#[105,110,110,101,114]⟩
abbrev kL:ByteArray:=⟨#[99,114,111,115,115]⟩
theorem ziq (k:ByteArray):((k.toList == jU.toList)=true ∧ (k.toList == jz.toList)=false ∧ (k.toList == kJ.toList)=false ∧ (k.toList == kM.toList)=false ∧ (k.toList == kL.toList)=false) ∨
  ((k.toList == jU.toList)=false ∧ (k.toList == jz.toList)=true ∧ (k.toList == kJ.toList)=false ∧ (k.toList == kM.toList)=false ∧ (k.toList == kL.toList)=false) ∨
  ((k.toList == jU.toList)=false ∧ (k.toList == jz.toList)=false ∧ (k.toList == kJ.toList)=true ∧ (k.toList == kM.toList)=false ∧ (k.toList == kL.toList)=false) ∨
  ((k.toList == jU.toList)=false ∧ (k.toList == jz.toList)=false ∧ (k.toList == kJ.toList)=false ∧ (k.toList == kM.toList)=true ∧ (k.toList == kL.toList)=false) ∨
  ((k.toList == jU.toList)=false ∧ (k.toList == jz.toList)=false ∧ (k.toList == kJ.toList)=false ∧ (k.toList == kM.toList)=false ∧ (k.toList == kL.toList)=true) ∨
  ((k.toList == jU.toList)=false ∧ (k.toList == jz.toList)=false ∧ (k.toList == kJ.toList)=false ∧ (k.toList == kM.toList)=false ∧ (k.toList == kL.toList)=false):=by
 have G:∀ x y:ByteArray,(x.toList == y.toList)=false → (k.toList == x.toList)=true → (k.toList == y.toList)=false:=fun x y h1 h2=>by rw [beq_iff_eq.1 h2];exact h1
 cases h1:k.toList == jU.toList
 ·cases h2:k.toList == jz.toList
  ·cases h3:k.toList == kJ.toList
   ·cases h4:k.toList == kM.toList
    ·cases h5:k.toList == kL.toList <;> decide
    ·have:=G kM kL (by decide +kernel) h4
     rw [this];decide
   ·have a4:=G kJ kM (by decide +kernel) h3
    have a5:=G kJ kL (by decide +kernel) h3
    rw [a4,a5];decide
  ·have a3:=G jz kJ (by decide +kernel) h2
   have a4:=G jz kM (by decide +kernel) h2
   have a5:=G jz kL (by decide +kernel) h2
   rw [a3,a4,a5];decide
 ·have a2:=G jU jz (by decide +kernel) h1
  have a3:=G jU kJ (by decide +kernel) h1
  have a4:=G jU kM (by decide +kernel) h1
  have a5:=G jU kL (by decide +kernel) h1
  rw [a2,a3,a4,a5];decide
def jL (k:ByteArray):Bool:=k.toList == jU.toList || k.toList == jz.toList
def jR (k:ByteArray):Bool:=k.toList == kJ.toList || k.toList == jz.toList
theorem zjF (k:ByteArray):((k.toList == jU.toList)=true ∧ (k.toList == jz.toList)=false ∧ (k.toList == kJ.toList)=false ∧ (k.toList == kM.toList)=false ∧ (k.toList == kL.toList)=false ∧ jL k=true ∧ jR k=false) ∨
  ((k.toList == jU.toList)=false ∧ (k.toList == jz.toList)=true ∧ (k.toList == kJ.toList)=false ∧ (k.toList == kM.toList)=false ∧ (k.toList == kL.toList)=false ∧ jL k=true ∧ jR k=true) ∨
  ((k.toList == jU.toList)=false ∧ (k.toList == jz.toList)=false ∧ (k.toList == kJ.toList)=true ∧ (k.toList == kM.toList)=false ∧ (k.toList == kL.toList)=false ∧ jL k=false ∧ jR k=true) ∨
  ((k.toList == jU.toList)=false ∧ (k.toList == jz.toList)=false ∧ (k.toList == kJ.toList)=false ∧ (k.toList == kM.toList)=true ∧ (k.toList == kL.toList)=false ∧ jL k=false ∧ jR k=false) ∨
  ((k.toList == jU.toList)=false ∧ (k.toList == jz.toList)=false ∧ (k.toList == kJ.toList)=false ∧ (k.toList == kM.toList)=false ∧ (k.toList == kL.toList)=true ∧ jL k=false ∧ jR k=false) ∨
  ((k.toList == jU.toList)=false ∧ (k.toList == jz.toList)=false ∧ (k.toList == kJ.toList)=false ∧ (k.toList == kM.toList)=false ∧ (k.toList == kL.toList)=false ∧ jL k=false ∧ jR k=false):=by
 rcases ziq k with ⟨h1,h2,h3,h4,h5⟩ | ⟨h1,h2,h3,h4,h5⟩ | ⟨h1,h2,h3,h4,h5⟩ | ⟨h1,h2,h3,h4,h5⟩ | ⟨h1,h2,h3,h4,h5⟩ | ⟨h1,h2,h3,h4,h5⟩
 ·exact .inl ⟨h1,h2,h3,h4,h5,by unfold jL;rw [h1,h2];rfl,by unfold jR;rw [h2,h3];rfl⟩
 ·exact .inr (.inl ⟨h1,h2,h3,h4,h5,by unfold jL;rw [h1,h2];rfl,by unfold jR;rw [h2,h3];rfl⟩)
 ·exact .inr (.inr (.inl ⟨h1,h2,h3,h4,h5,by unfold jL;rw [h1,h2];rfl,by unfold jR;rw [h2,h3];rfl⟩))
 ·exact .inr (.inr (.inr (.inl ⟨h1,h2,h3,h4,h5,by unfold jL;rw [h1,h2];rfl,by unfold jR;rw [h2,h3];rfl⟩)))
 ·exact .inr (.inr (.inr (.inr (.inl ⟨h1,h2,h3,h4,h5,by unfold jL;rw [h1,h2];rfl,by unfold jR;rw [h2,h3];rfl⟩))))
 ·exact .inr (.inr (.inr (.inr (.inr (⟨h1,h2,h3,h4,h5,by unfold jL;rw [h1,h2];rfl,by unfold jR;rw [h2,h3];rfl⟩)))))
def jC (k:ByteArray):Bool:=k.toList == kL.toList
def zej (k:ByteArray):Bool:=jL k || jR k || k.toList == kM.toList || jC k
def jT (k:ByteArray) (tF:List Val → Bool × Int) (x y:List Val):Bool:=jC k || (tF (x ++ y)).1
def jE (k:ByteArray) (tF:List Val → Bool × Int) (x y:List Val):Int:=if jC k then 0 else (tF (x ++ y)).2
def zcD (k:ByteArray) (tF:List Val → Bool × Int) (a b:List (List Val)):Int:=Wm (fun x=>Wm (jE k tF x) b) a
def xr (k:ByteArray) (tF:List Val → Bool × Int) (wa wb:Int) (a b:List (List Val)):List (List Val) × Int:=
 if zej k then (okF (zcD k tF a b) (Yy (jT k tF) (jL k) (jR k) (wC wa) (wC wb) a b),zcD k tF a b) else ([],1)
theorem zeC (x y:List Val) (h:x.length + y.length ≤ 1000000):Good Tryz.prog 42 [.c (.lst 1 false [[qk x],[qk y]])] [] (.c (qk (x ++ y))) []:=by
 have:=zdM [x,y] (by simp) (by simp [VB];omega)
 rw [show [x,y].flatten=x ++ y by simp] at this
 exact this
theorem yX (n:Int):(wC n).length=(max n 0).toNat:=by simp [wC]
def jJ (T:List Val → List Val → Bool) (l:Bool) (nb:List Val) (b a:List (List Val)) (x:List Val) (i:Nat):List (List Val):=a.flatMap (KJ T l nb b) ++ ((b.take i).filter (T x)).map (x ++ ·)
theorem xV (T:List Val → List Val → Bool) (l:Bool) (nb:List Val) (b a:List (List Val)) (x:List Val) (i:Nat) (ha:a.length ≤ 1000) (hb:b.length ≤ 1000):(jJ T l nb b a x i).length ≤ 1002000:=by
 unfold jJ
 have h1:=xo T l nb b a
 have h2:=List.length_filter_le (T x) (b.take i)
 have h3:a.length * (b.length + 1) ≤ 1000 * 1001:=Nat.mul_le_mul ha (by omega)
 rw [List.length_append,List.length_map]
 rw [List.length_take] at h2
 omega
theorem Zx {T:List Val → List Val → Bool} {l:Bool} {nb:List Val} {b a:List (List Val)} {x y:List Val} {i:Nat} (ht:b.take (i + 1)=b.take i ++ [y]) (h:T x y=true):jJ T l nb b a x (i + 1)=jJ T l nb b a x i ++ [x ++ y]:=by
 unfold jJ;rw [ht,List.filter_append];simp [h]
theorem XR {T:List Val → List Val → Bool} {l:Bool} {nb:List Val} {b a:List (List Val)} {x y:List Val} {i:Nat} (ht:b.take (i + 1)=b.take i ++ [y]) (h:T x y=false):jJ T l nb b a x (i + 1)=jJ T l nb b a x i:=by
 unfold jJ;rw [ht,List.filter_append];simp [h]
theorem y4 (T:List Val → List Val → Bool) (l:Bool) (nb:List Val) (b a:List (List Val)) (x:List Val):jJ T l nb b a x 0=a.flatMap (KJ T l nb b):=by simp [jJ]
theorem Wi (T:List Val → List Val → Bool) (l:Bool) (nb:List Val) (b a:List (List Val)) (x:List Val):jJ T l nb b a x b.length=a.flatMap (KJ T l nb b) ++ (b.filter (T x)).map (x ++ ·):=by simp [jJ]
theorem zgw (T:List Val → List Val → Bool) (l:Bool) (nb:List Val) (b a:List (List Val)) (x:List Val):(((jJ T l nb b a x b.length).length:Int) == ((a.flatMap (KJ T l nb b)).length:Int))=(b.filter (T x)).isEmpty:=by
 rw [Wi,List.length_append,List.length_map]
 cases h:b.filter (T x) with
 | nil=>simp
 | cons y ys=>simp;omega
theorem Jm {T:List Val → List Val → Bool} {nb:List Val} {b a:List (List Val)} {x:List Val} (h:(b.filter (T x)).isEmpty=true) {a2:List (List Val)} (ha:a2=a ++ [x]):a2.flatMap (KJ T true nb b)=jJ T true nb b a x b.length ++ [x ++ nb]:=by
 rw [ha,Wi,List.flatMap_append]
 have h2:b.filter (T x)=[]:=List.isEmpty_iff.1 h
 simp [KJ,h2]
theorem Zh {T:List Val → List Val → Bool} {nb:List Val} {b a:List (List Val)} {x:List Val} {l:Bool} (h:(l && (b.filter (T x)).isEmpty)=false) {a2:List (List Val)} (ha:a2=a ++ [x]):a2.flatMap (KJ T l nb b)=jJ T l nb b a x b.length:=by
 rw [ha,Wi,List.flatMap_append]
 simp [KJ,h]
def ZI (T:List Val → List Val → Bool) (b a:List (List Val)):List (List CV):=b.map fun y=>[CV.bool (a.any (T · y))]
theorem j4 (T:List Val → List Val → Bool) (b a:List (List Val)):(ZI T b a).length=b.length:=by simp [ZI]
def zb2 (T:List Val → List Val → Bool) (r:Bool) (na:List Val) (a b:List (List Val)) (i:Nat):List (List Val):=if r then ((b.take i).filter fun y=>!(a.any fun x=>T x y)).map (na ++ ·) else []
theorem zbw (T:List Val → List Val → Bool) (r:Bool) (na:List Val) (a b:List (List Val)) (i:Nat):(zb2 T r na a b i).length ≤ b.length:=by
 unfold zb2
 split
 ·have:=List.length_filter_le (fun y=>!(a.any fun x=>T x y)) (b.take i)
  rw [List.length_take] at this
  rw [List.length_map];omega
 ·simp
theorem wm (T:List Val → List Val → Bool) (a:List (List Val)) (x:List Val) (b:List (List Val)) {a2:List (List Val)} (ha:a2=a ++ [x]):x6 T a x b b.length=ZI T b a2:=by rw [ha];exact zfG T a x b
theorem Vo {T:List Val → List Val → Bool} {a b:List (List Val)} {i:Nat} {y:List Val} (hy:b[i]?=some y):(ZI T b a)[i]?=some [CV.bool (a.any (T · y))]:=by
 unfold ZI;rw [List.getElem?_map,hy];rfl
theorem WS (T:List Val → List Val → Bool) (r:Bool) (na:List Val) (a b:List (List Val)):zb2 T r na a b 0=[]:=by unfold zb2;split <;> simp
theorem WH {T:List Val → List Val → Bool} {na y:List Val} {a b:List (List Val)} {i:Nat} (ht:b.take (i + 1)=b.take i ++ [y]) (h:a.any (T · y)=false):zb2 T true na a b (i + 1)=zb2 T true na a b i ++ [na ++ y]:=by
 unfold zb2;rw [if_pos rfl,if_pos rfl,ht,List.filter_append];simp only [List.filter_cons,h];simp
theorem WW {T:List Val → List Val → Bool} {na y:List Val} {a b:List (List Val)} {i:Nat} (ht:b.take (i + 1)=b.take i ++ [y]) (h:a.any (T · y)=true):zb2 T true na a b (i + 1)=zb2 T true na a b i:=by
 unfold zb2;rw [if_pos rfl,if_pos rfl,ht,List.filter_append];simp only [List.filter_cons,h];simp
theorem VZ (T:List Val → List Val → Bool) (l r:Bool) (na nb:List Val) (a b:List (List Val)):Yy T l r na nb a b=a.flatMap (KJ T l nb b) ++ zb2 T r na a b b.length:=by
 unfold Yy zb2;rw [List.take_length]
theorem zeN (k:ByteArray) (a b:List (List Val)) (wa wb:Int) (on:Expr) (tF:List Val → Bool × Int) (ha:a.length ≤ 1000) (hb:b.length ≤ 1000)
  (hla:∀ x,x ∈ a → x.length ≤ 1000) (hlb:∀ x,x ∈ b → x.length ≤ 1000) (hwa:wa ≤ 1000) (hwb:wb ≤ 1000)
  (ht:∀ x,x ∈ a → ∀ y,y ∈ b → Good Tryz.prog 22 [on.av,.c (qk (x ++ y))] [] (.tup [cB (tF (x ++ y)).1,cI (tF (x ++ y)).2]) []) :
  Good Tryz.prog 13 [cS k,.c (qD a),.c (qD b),cI wa,cI wb,on.av] [] (.tup [.c (qD (xr k tF wa wb a b).1),cI (xr k tF wa wb a b).2]) []:=by
 obtain ⟨T,hT⟩:∃ T,T=jT k tF:=⟨_,rfl⟩
 obtain ⟨E,hE⟩:∃ E,E=jE k tF:=⟨_,rfl⟩
 obtain ⟨F,hF⟩:∃ F,F=Wm (fun x=>Wm (E x) b) a:=⟨_,rfl⟩
 obtain ⟨R,hR⟩:∃ R,R=(AV.tup [.c (qD (xr k tF wa wb a b).1),cI (xr k tF wa wb a b).2]):=⟨_,rfl⟩
 have hal1:∀ x:List (List Val),(x.map qH).all (fun y=>y.length == 1)=true:=fun x=>List.all_eq_true.2 fun y hy=>by
  obtain ⟨z,_,rfl⟩:=List.mem_map.1 hy
  rfl
 rw [← hR]
 have hfit:b.length * 1 ≤ 140737488355328:=by omega
 refine Good.zg TT 4000 Tryz.func13 rfl rfl ?_
 unfold Tryz.f13
 rcases zjF k with ⟨h1,h2,h3,h4,h5,f2,f3⟩ | ⟨h1,h2,h3,h4,h5,f2,f3⟩ | ⟨h1,h2,h3,h4,h5,f2,f3⟩ | ⟨h1,h2,h3,h4,h5,f2,f3⟩ | ⟨h1,h2,h3,h4,h5,f2,f3⟩ | ⟨h1,h2,h3,h4,h5,f2,f3⟩
 case inr.inr.inr.inr.inr =>
  have e1:zej k=false:=by unfold zej jL jR jC;rw [h1,h2,h3,h4,h5];rfl
  simp only [go_sem,h1,h2,h3,h4,h5,go_sem_proc]
  rw [hR,xr,e1]
  exact Le.of_eq rfl
 all_goals
  have e1:zej k=true:=by unfold zej jL jR jC;rw [h1,h2,h3,h4,h5];rfl
  obtain ⟨L,hL⟩:∃ L,L=jL k:=⟨_,rfl⟩
  obtain ⟨S,hS⟩:∃ S,S=jR k:=⟨_,rfl⟩
  have e2:=hL.symm
  have e3:=hS.symm
  rw [f2] at hL
  rw [f3] at hS
  have htT:jC k=false → ∀ x,x ∈ a → ∀ y,y ∈ b → Good Tryz.prog 22 [on.av,.c (qk (x ++ y))] [] (.tup [cB (T x y),cI (E x y)]) []:=fun hc x hx y hy=>by
   have:=ht x hx y hy
   rw [hT,hE];unfold jT jE;rw [hc];exact this
  have hR1:F ≠ 0 → R = .tup [.c (qD []),cI F]:=fun h=>by rw [hR,xr,if_pos e1];simp only [zcD,← hE,← hF];rw [zeQ h]
  have hR0:F=0 → R = .tup [.c (qD (Yy T L S (wC wa) (wC wb) a b)),cI 0]:=fun h=>by rw [hR,xr,if_pos e1];simp only [zcD,← hE,← hF,← hT,e2,e3,h];rw [zjN]
  obtain ⟨nb,hnb⟩:∃ nb,nb=wC wb:=⟨_,rfl⟩
  obtain ⟨na,hna⟩:∃ na,na=wC wa:=⟨_,rfl⟩
  rw [← hnb,← hna] at hR0
  have hnbl:nb.length ≤ 1000:=by rw [hnb,yX];omega
  have hnal:na.length ≤ 1000:=by rw [hna,yX];omega
  simp only [go_sem,h1,h2,h3,h4,h5,qD,List.length_map,Nat.zero_add,hfit,go_sem_proc]
  refine ⟨⟨by omega,by omega⟩,?_⟩
  refine Lp.atP TT 4000 1 (Nat.le_of_ble_eq_true rfl) [false,false,false,false,false,false,false,false,false,false,false,false,true,true,false,false,true,false,false,true,true,true,true,true,true,true,false,false,false,false,false,false,false,false,false,false,false,false,false,false,false,false,false,false,false,false,false,false,false,false,false,false,false,false,false,false,false,false,false,true,true,true,true,true,true,true,true,true,true,true,true,true,true,true,true,true,true,true,true,true,true,true,true,true,true,true,true,true,true,true,true,true,true,true,true,true,true,true,true,true,true,true,true,true,true,true,true,true,true,true,true,true] (fun j:Nat=>a.length - j) (fun j=>j ≤ a.length ∧ ∀ x,x ∈ a.take j → Wm (E x) b=0) (fun j=>[(12,.dead),(16,.sl 1 0 ((a.take j).flatMap (KJ T L nb b)).length),(17,.sl 2 0 b.length),(56,.dead),(59,cI j)]) (fun j=>[.rows 1 47 (((a.take j).flatMap (KJ T L nb b)).map qH),.rows 1 4 (ZI T b (a.take j))]) [2,3] (0) (⟨Nat.zero_le _,fun r hr=>by simp at hr⟩) ?_ ?_
  ·simp only [go_sem,go_sem_proc]
   rw [show ZI T b []=List.replicate b.length [.bool false] by simp [ZI,List.map_const']]
   exact ⟨rfl,rfl⟩
  ·rintro j ⟨i1,i2⟩
   rcases Nat.lt_or_ge j a.length with hlt | hge
   ·obtain ⟨x,hx,hmx,hta,hda⟩:=vj hlt
    have hw:=zh (j:=j) (by omega)
    simp only [go_sem,hlt,hx,go_sem_proc]
    refine Lp.atP TT 4000 1 (Nat.le_of_ble_eq_true rfl) [false,false,false,false,false,false,false,false,false,false,false,false,true,true,false,false,true,false,false,false,false,true,true,true,true,true,false,false,false,false,false,false,false,false,false,false,false,false,false,false,false,false,false,false,false,false,false,false,false,false,false,false,false,false,false,false,false,false,false,false,false,false,false,false,false,false,false,true,true,true,true,true,true,true,true,true,true,true,true,true,true,true,true,true,true,true,true,true,true,true,true,true,true,true,true,true] (fun i:Nat=>b.length - i) (fun i=>i ≤ b.length ∧ ∀ y,y ∈ b.take i → E x y=0) (fun i=>[(16,.sl 1 0 (jJ T L nb b (a.take j) x i).length),(17,.sl 2 0 b.length),(63,.dead),(67,cI i)]) (fun i=>[.rows 1 47 ((jJ T L nb b (a.take j) x i).map qH),.rows 1 4 (x6 T (a.take j) x b i)]) [1,2] (0) (⟨Nat.zero_le _,fun r hr=>by simp at hr⟩) ?_ ?_
    ·simp only [go_sem,go_sem_proc]
     exact ⟨rfl,zq.of_eq (by rw [y4]),by rw [y4,V8];rfl⟩
    ·rintro i ⟨k1,k2⟩
     rcases Nat.lt_or_ge i b.length with hlt2 | hge2
     ·obtain ⟨y,hy,hmy,htb,hdb⟩:=vj hlt2
      have hw2:=zh (j:=i) (by omega)
      have hxl:=hla x hmx
      have hyl:=hlb y hmy
      simp only [go_sem,hlt2,hy,go_sem_proc]
      refine Cl.pure TT 4000 (zeC x y (by omega)) rfl rfl ?_
      first
       |
        have hcc:jC k=false:=h5
        simp only [go_sem,h1,h2,h3,h4,h5,go_sem_proc]
        refine Cl.pure TT 4000 (htT h5 x hmx y hmy) rfl rfl ?_
        by_cases he:E x y=0
        ·have he':(E x y != 0)=false:=by simp [he]
         have hnx:∀ z,z ∈ b.take (i + 1) → E x z=0:=fun z hz=>by
          rw [htb] at hz
          rcases List.mem_append.1 hz with hz | hz
          ·exact k2 z hz
          ·rw [List.mem_singleton.1 hz];exact he
         cases hTx:T x y with
         | true =>
          have hwt:=wh (T:=T) (a:=a.take j) (x:=x) hy
          rw [hTx,Bool.or_true] at hwt
          have hwg:=xu (T:=T) (a:=a.take j) (x:=x) hy
          have hXn:=Zx (l:=L) (nb:=nb) (a:=a.take j) (x:=x) htb hTx
          have hxl:=xV T L nb b (a.take j) x i (by rw [List.length_take];omega) hb
          have hsz:((jJ T L nb b (a.take j) x i).length + 1) * 24 ≤ 140737488355328:=by omega
          have hnext:List.map qH (jJ T L nb b (a.take j) x i) ++ [[.lst 3 false ((x ++ y).map Val.cs)]]=List.map qH (jJ T L nb b (a.take j) x (i + 1)):=by rw [hXn,List.map_append (f:=qH)];rfl
          have hXl:(jJ T L nb b (a.take j) x (i + 1)).length=(jJ T L nb b (a.take j) x i).length + 1:=by rw [hXn];simp
          simp only [go_sem,he',hTx,hw2,hal1,List.length_map,Nat.zero_add,hsz,hnext,hwg,← hwt,hlt2,Zy,go_sem_proc]
          exact ⟨i + 1,[5,2],by omega,⟨by omega,hnx⟩,rfl,⟨zq.of_eq (by rw [hXl];rfl),zq.of_eq rfl,zq.of_eq rfl⟩,rfl⟩
         | false =>
          have hXn:=XR (l:=L) (nb:=nb) (a:=a.take j) (x:=x) htb hTx
          have hwt:=VM (T:=T) (a:=a.take j) (x:=x) hy hTx
          simp only [go_sem,he',hTx,hw2,go_sem_proc]
          exact ⟨i + 1,[1,2],by omega,⟨by omega,hnx⟩,rfl,⟨zq.of_eq (by rw [hXn];rfl),zq.of_eq rfl,zq.of_eq rfl⟩,by rw [hXn,hwt];rfl⟩
        ·have he':(E x y != 0)=true:=bne_iff_ne.2 he
         simp only [go_sem,he',go_sem_proc]
         have hFx:Wm (E x) b=E x y:=Kv hy k2 he
         have hFF:F=E x y:=by rw [hF,Kv hx i2 (by rw [hFx];exact he),hFx]
         rw [hR1 (by rw [hFF];exact he),hFF]
         exact Le.refl _
       |
        skip
        have hTx:T x y=true:=by rw [hT];unfold jT jC;rw [h5];rfl
        have he:E x y=0:=by rw [hE];unfold jE jC;rw [h5];rfl
        have hnx:∀ z,z ∈ b.take (i + 1) → E x z=0:=fun z hz=>by
         rw [htb] at hz
         rcases List.mem_append.1 hz with hz | hz
         ·exact k2 z hz
         ·rw [List.mem_singleton.1 hz];exact he
        have hwt:=wh (T:=T) (a:=a.take j) (x:=x) hy
        rw [hTx,Bool.or_true] at hwt
        have hwg:=xu (T:=T) (a:=a.take j) (x:=x) hy
        have hXn:=Zx (l:=L) (nb:=nb) (a:=a.take j) (x:=x) htb hTx
        have hxl:=xV T L nb b (a.take j) x i (by rw [List.length_take];omega) hb
        have hsz:((jJ T L nb b (a.take j) x i).length + 1) * 24 ≤ 140737488355328:=by omega
        have hnext:List.map qH (jJ T L nb b (a.take j) x i) ++ [[.lst 3 false ((x ++ y).map Val.cs)]]=List.map qH (jJ T L nb b (a.take j) x (i + 1)):=by rw [hXn,List.map_append (f:=qH)];rfl
        have hXl:(jJ T L nb b (a.take j) x (i + 1)).length=(jJ T L nb b (a.take j) x i).length + 1:=by rw [hXn];simp
        simp only [go_sem,h1,h2,h3,h4,h5,hw2,hal1,List.length_map,Nat.zero_add,hsz,hnext,hwg,← hwt,hlt2,Zy,go_sem_proc]
        exact ⟨i + 1,[5,2],by omega,⟨by omega,hnx⟩,rfl,⟨zq.of_eq (by rw [hXl];rfl),zq.of_eq rfl,zq.of_eq rfl⟩,rfl⟩
     ·have hi:i=b.length:=by omega
      subst hi
      rw [List.take_length] at k2
      have hnx:∀ z,z ∈ a.take (j + 1) → Wm (E z) b=0:=fun z hz=>by
       rw [hta] at hz
       rcases List.mem_append.1 hz with hz | hz
       ·exact i2 z hz
       ·rw [List.mem_singleton.1 hz];exact Vt.2 k2
      simp only [go_sem,Nat.lt_irrefl,go_sem_proc]
      first
       |
        have hLt:L=true:=hL
        cases hem:(b.filter (T x)).isEmpty with
        | true =>
         have hfm:=Jm (nb:=nb) hem hta
         have hwn:=wm T (a.take j) x b hta
         have hq:=zgw T L nb b (a.take j) x
         rw [hem] at hq
         subst hL
         have hol:=xV T true nb b (a.take j) x b.length (by rw [List.length_take];omega) hb
         have hsz:((jJ T true nb b (a.take j) x b.length).length + 1) * 24 ≤ 140737488355328:=by omega
         have hnext:List.map qH (jJ T true nb b (a.take j) x b.length) ++ [[.lst 3 false ((x ++ nb).map Val.cs)]]=List.map qH ((a.take (j + 1)).flatMap (KJ T true nb b)):=by rw [hfm,List.map_append (f:=qH)];rfl
         simp only [go_sem,hq,go_sem_proc]
         refine Cl.pure TT 4000 (Jn wb (by omega)) rfl rfl ?_
         rw [← hnb]
         simp only [go_sem,go_sem_proc]
         refine Cl.pure TT 4000 (zeC x nb (by have:=hla x hmx;omega)) rfl rfl ?_
         simp only [go_sem,hw,hal1,List.length_map,Nat.zero_add,hsz,hnext,go_sem_proc]
         exact ⟨j + 1,[5,2],by omega,⟨by omega,hnx⟩,rfl,⟨zq.of_eq (by rw [hfm,List.length_append];rfl),zq.of_eq rfl,zq.of_eq rfl⟩,by rw [hwn];rfl⟩
        | false =>
         have hfm:=Zh (nb:=nb) (l:=L) (by rw [hem,Bool.and_false]) hta
         have hwn:=wm T (a.take j) x b hta
         have hq:=zgw T L nb b (a.take j) x
         rw [hem] at hq
         simp only [go_sem,hq,hw,go_sem_proc]
         exact ⟨j + 1,[1,2],by omega,⟨by omega,hnx⟩,rfl,⟨zq.of_eq (by rw [hfm];rfl),zq.of_eq rfl,zq.of_eq rfl⟩,by rw [hfm,hwn];rfl⟩
       |
        skip
        have hfm:=Zh (T:=T) (b:=b) (nb:=nb) (l:=L) (by rw [hL,Bool.false_and]) hta
        have hwn:=wm T (a.take j) x b hta
        simp only [go_sem,hw,go_sem_proc]
        exact ⟨j + 1,[1,2],by omega,⟨by omega,hnx⟩,rfl,⟨zq.of_eq (by rw [hfm];rfl),zq.of_eq rfl,zq.of_eq rfl⟩,by rw [hfm,hwn];rfl⟩
   ·have hj:j=a.length:=by omega
    subst hj
    rw [List.take_length] at i2
    have hF0:F=0:=by rw [hF];exact Vt.2 i2
    simp only [go_sem,Nat.lt_irrefl,List.take_length,go_sem_proc]
    obtain ⟨Z,hZ⟩:∃ Z:Nat → List (List Val),∀ i,Z i=a.flatMap (KJ T L nb b) ++ zb2 T S na a b i:=⟨_,fun _=>rfl⟩
    have hZ0:a.flatMap (KJ T L nb b)=Z 0:=by rw [hZ,WS,List.append_nil]
    have hRZ:R = .tup [.c (qD (Z b.length)),cI 0]:=by rw [hR0 hF0,VZ,← hZ]
    rw [hZ0]
    refine Lp.atP TT 4000 1 (Nat.le_of_ble_eq_true rfl) [false,false,false,false,false,false,false,false,false,false,false,false,false,false,false,false,true,false,false,false,false,false,false,false,false,false,true,true,false,false,false,false,false,false,false,false,false,false,false,false,false,false,false,false,false,false,false,false,false,false,false,false,false,false,false,false,false,false,false,false,false,false,false,false,false,false,false,false,false,false,false,false,false,false,false,false,false,false,false,false,false,false,false,false,false,false,false,false,false,false,false,false,false,false,false,false,false,false,false,false,false,false,false,false,false,false,false,false,false,false,false,false,false,false,true,true,true,true,true,true,true,true,true,true,true,true,true,true,true,true,true,true,true,true,true,true] (fun i:Nat=>b.length - i) (fun i=>i ≤ b.length) (fun i=>[(16,.sl 1 0 (Z i).length),(17,.sl 2 0 b.length),(114,cI i)]) (fun i=>[.rows 1 47 ((Z i).map qH),.rows 1 4 (ZI T b a)]) [1,2] (0) (Nat.zero_le _) ?_ ?_
    ·simp only [go_sem,go_sem_proc]
     first | done | rfl
    ·rintro i k1
     rcases Nat.lt_or_ge i b.length with hlt2 | hge2
     ·obtain ⟨y,hy,hmy,htb,hdb⟩:=vj hlt2
      have hw2:=zh (j:=i) (by omega)
      first
       |
        have hSt:S=true:=hS
        have hwg:=Vo (T:=T) (a:=a) hy
        have hyl:=hlb y hmy
        cases han:a.any (T · y) with
        | true =>
         rw [han] at hwg
         have hZn:Z (i + 1)=Z i:=by rw [hZ,hZ,hS,WW htb han]
         simp only [go_sem,Nat.zero_add,hlt2,hy,hw2,hwg,j4,go_sem_proc]
         exact ⟨i + 1,[1,2],by omega,by omega,rfl,⟨zq.of_eq (by rw [hZn];rfl),zq.of_eq rfl,zq.of_eq rfl⟩,by rw [hZn];rfl⟩
        | false =>
         rw [han] at hwg
         have hZn:Z (i + 1)=Z i ++ [na ++ y]:=by rw [hZ,hZ,hS,WH htb han,List.append_assoc]
         have hZl:(Z i).length ≤ 1003000:=by
          rw [hZ,List.length_append]
          have z1:=xo T L nb b a
          have z2:=zbw T S na a b i
          have z3:a.length * (b.length + 1) ≤ 1000 * 1001:=Nat.mul_le_mul ha (by omega)
          omega
         have hsz:((Z i).length + 1) * 24 ≤ 140737488355328:=by omega
         have hnext:List.map qH (Z i) ++ [[.lst 3 false ((na ++ y).map Val.cs)]]=List.map qH (Z (i + 1)):=by rw [hZn,List.map_append (f:=qH)];rfl
         simp only [go_sem,Nat.zero_add,hlt2,hy,hwg,j4,go_sem_proc]
         refine Cl.pure TT 4000 (Jn wa (by omega)) rfl rfl ?_
         rw [← hna]
         simp only [go_sem,go_sem_proc]
         refine Cl.pure TT 4000 (zeC na y (by omega)) rfl rfl ?_
         simp only [go_sem,hw2,hal1,List.length_map,Nat.zero_add,hsz,hnext,go_sem_proc]
         exact ⟨i + 1,[5,2],by omega,by omega,rfl,⟨zq.of_eq (by rw [hZn,List.length_append];rfl),zq.of_eq rfl,zq.of_eq rfl⟩,rfl⟩
       |
        skip
        have hZn:Z (i + 1)=Z i:=by rw [hZ,hZ,hS];rfl
        simp only [go_sem,hlt2,hy,hw2,go_sem_proc]
        exact ⟨i + 1,[1,2],by omega,by omega,rfl,⟨zq.of_eq (by rw [hZn];rfl),zq.of_eq rfl,zq.of_eq rfl⟩,by rw [hZn];rfl⟩
     ·have hi:i=b.length:=by omega
      subst hi
      have hk:List.take (Z b.length).length (List.map qH (Z b.length))=List.map qH (Z b.length):=List.take_of_length_le (by simp)
      simp only [go_sem,Nat.lt_irrefl,List.length_map,Nat.zero_add,Nat.le_refl,hk,go_sem_proc]
      rw [hRZ]
      exact Le.of_eq rfl
end Go.Ev
end
