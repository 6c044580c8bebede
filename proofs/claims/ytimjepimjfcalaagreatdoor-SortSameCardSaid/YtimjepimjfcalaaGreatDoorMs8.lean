import Derived.Test.YtimjepimjfcalaaGreatDoorMs7
import Derived.Test.YtimjepimjfcalaaGreatDoorMe1
import Derived.Test.YtimjepimjfcalaaGreatDoorMe6
set_option linter.all false
set_option maxRecDepth 100000
set_option maxHeartbeats 8000000
section
open Go Go.Proofs Go.RowKit
namespace Go.Ev
abbrev Keyed:=List Val × List Val
@[go_sem] def kcell (p:Keyed):List CV:=[rowC p.1,rowC p.2]
def keyedC (l:List Keyed):CV:=.lst 2 false (l.map kcell)
def orderC (ks:List Key):CV:=.fn 46 [.pt [keysC ks]]
theorem order_good (ks:List Key):Good Tryz.prog 29 [.c (keysC ks)] [] (.c (orderC ks)) []:=by
 refine Good.of_vmQ TT 4000 Tryz.func29 rfl rfl ?_
 unfold Tryz.f29
 simp only [go_sem,keysC,orderC,go_sem_proc]
 first | done | exact Le.refl _
theorem ordF_step (k:Key) (c:Int) (F R:Int) (h:F=if sgn k.desc c ≠ 0 then sgn k.desc c else R):(c ≠ 0 → k.desc=true → F = -c) ∧ (c ≠ 0 → k.desc=false → F=c) ∧ (c=0 → F=R):=by
 unfold sgn at h
 refine ⟨fun h1 h2=>?_,fun h1 h2=>?_,fun h1=>?_⟩
 ·rw [h,h2,if_pos rfl,if_pos (by omega)]
 ·rw [h2] at h;simp only [Bool.false_eq_true,if_false,if_pos h1] at h;exact h
 ·rw [h,h1];cases k.desc <;> simp
theorem order1_good (ks:List Key) (p q:Keyed) (ha:p.2.length=ks.length) (hb:q.2.length=ks.length) (hk:ks.length ≤ 1000) :
  Good Tryz.prog 46 [.agg [.c (rowC p.1),.c (rowC p.2)],.agg [.c (rowC q.1),.c (rowC q.2)],.rd [keysC ks]] [] (cI (ordF ks p.2 q.2)) []:=by
 obtain ⟨F,hF⟩:∃ F,F=ordF ks p.2 q.2:=⟨_,rfl⟩
 rw [← hF]
 refine Good.of_vmQ TT 4000 Tryz.func46 rfl rfl ?_
 unfold Tryz.f46
 simp only [go_sem,keysC,go_sem_proc]
 refine Lp.at TT 4000 2 (Nat.le_of_ble_eq_true rfl) [false,false,false,false,false,true,true,true,true,false,false,true,true,true,true,true,true,true,true,true,true,true,true,true,true,true,true,true,true,true,true,true,true,true,true,true,true,true,true] (fun j:Nat=>ks.length - j) (fun j=>j ≤ ks.length ∧ F=ordF (ks.drop j) (p.2.drop j) (q.2.drop j)) (fun j=>[(11,cI j)]) (fun _=>[]) (0) (⟨Nat.zero_le _,hF⟩) ?_ ?_
 ·simp only [go_sem,go_sem_proc]
  first | done | rfl
 ·rintro j ⟨i1,i2⟩
  rcases Nat.lt_or_ge j ks.length with hlt | hge
  ·obtain ⟨k,hx,hm,ht,hd⟩:=getS hlt
   obtain ⟨x,hx1,_,_,hd1⟩:=getB ha hlt
   obtain ⟨y,hx2,_,_,hd2⟩:=getB hb hlt
   have hw:=wrap_succ (j:=j) (by omega)
   have ha':j < p.2.length:=by omega
   have hb':j < q.2.length:=by omega
   rw [hd,hd1,hd2,ordF] at i2
   have hc:=cmp_bound x y
   have hn:IntKind.wrap .i64 (0 - x.cmp y) = - x.cmp y:=by rw [Int.zero_sub];exact wrap_id (by omega) (by omega)
   simp only [go_sem,hlt,hx,go_sem_proc]
   (refine Dr.of TT (by kernel_rfl) [(47,[x.av,y.av],cI (x.cmp y))] ⟨⟨value_Compare x y,rfl⟩,trivial⟩ ?_;simp only [go_sem,hlt,hx1,hx2,ha',hb',hw,go_sem_proc];refine DEnd.of TT 4000 (memOK_quiet rfl) ?_;simp only [go_sem,hlt,hx1,hx2,ha',hb',hw,go_sem_proc])
   generalize x.cmp y=c at i2 hc hn ⊢
   obtain ⟨f1,f2,f3⟩:=ordF_step k c F _ i2
   by_cases hc0:c=0
   ·have b1:(c != 0)=false:=by simp [hc0]
    simp only [go_sem,b1,hw,go_sem_proc]
    exact ⟨j + 1,by omega,⟨by omega,f3 hc0⟩,Fit1.of_eq rfl⟩
   ·have b1:(c != 0)=true:=by simp [hc0]
    cases hde:k.desc
    ·simp only [go_sem,b1,hde,go_sem_proc]
     exact Le.of_eq (congrArg cI (f2 hc0 hde).symm)
    ·simp only [go_sem,b1,hde,hn,go_sem_proc]
     exact Le.of_eq (congrArg cI (f1 hc0 hde).symm)
  ·have:j=ks.length:=by omega
   subst this
   rw [List.drop_length] at i2
   simp only [go_sem,Nat.lt_irrefl,go_sem_proc]
   rw [i2,ordF]
   ·first | done | exact Le.refl _
   ·simp
def fillG {α:Type} (z:List CV) (f:α → List CV) (vs:List α) (n j:Nat):List (List CV):=(vs.take j).map f ++ List.replicate (n - j) z
theorem fillG_get {α:Type} {z:List CV} {f:α → List CV} {vs:List α} {n j:Nat} (hn:vs.length=n) (hj:j < n):(fillG z f vs n j)[j]?=some z:=by
 unfold fillG
 rw [List.getElem?_append_right (by simp;omega),List.length_map,List.length_take,Nat.min_eq_left (by omega),Nat.sub_self,List.getElem?_replicate,if_pos (by omega)]
theorem fillG_set {α:Type} {z:List CV} {f:α → List CV} {vs:List α} {n j:Nat} {v:α} (hn:vs.length=n) (hj:j < n) (hv:vs[j]?=some v):(fillG z f vs n j).set j (f v)=fillG z f vs n (j + 1):=by
 unfold fillG
 have h1:((vs.take j).map f).length=j:=by simp;omega
 rw [List.set_append_right _ _ (by omega),h1,Nat.sub_self,List.take_succ,hv,show n - j=(n - (j + 1)) + 1 by omega,List.replicate_succ,List.set_cons_zero]
 simp
theorem fillG_zero {α:Type} {z:List CV} {f:α → List CV} {vs:List α} {n:Nat}:fillG z f vs n 0=List.replicate n z:=by simp [fillG]
theorem fillG_all {α:Type} {z:List CV} {f:α → List CV} {vs:List α} {n:Nat} (hn:vs.length=n):fillG z f vs n n=vs.map f:=by simp [fillG,← hn]
theorem rows_good (l:List Keyed) (hl:l.length ≤ 100000):Good Tryz.prog 35 [.c (keyedC l)] [] (.c (rowsC (fsts l))) []:=by
 refine Good.of_vmQ TT 4000 Tryz.func35 rfl rfl ?_
 unfold Tryz.f35
 simp only [go_sem,keyedC,go_sem_proc]
 refine ⟨⟨by omega,by omega⟩,?_⟩
 refine Lp.at TT 4000 2 (Nat.le_of_ble_eq_true rfl) [false,false,false,false,true,true,false,false,false,false,false,true,true,true,true,true,true,true,true,true,true,true] (fun j:Nat=>l.length - j) (fun j=>j ≤ l.length) (fun j=>[(11,cI j)]) (fun j=>[(1,.rows 1 38 (fillG [.nl] rcell (fsts l) l.length j))]) (0) (Nat.zero_le _) ?_ ?_
 ·simp only [go_sem,go_sem_proc]
  rw [fillG_zero]
 ·rintro j i1
  have hn:(fsts l).length=l.length:=List.length_map ..
  rcases Nat.lt_or_ge j l.length with hlt | hge
  ·obtain ⟨x,hx,hm,ht,hd⟩:=getS hlt
   have hw:=wrap_succ (j:=j) (by omega)
   have hg:=fillG_get (z:=[.nl]) (f:=rcell) hn hlt
   have hs:=fillG_set (z:=[.nl]) (f:=rcell) (v:=x.1) hn hlt (by rw [List.getElem?_map,hx];rfl)
   simp only [rcell,rowC] at hs
   simp only [go_sem,hlt,hx,go_sem_proc]
   simp only [go_sem,hlt,hw,hg,hs,Nat.zero_add,go_sem_proc]
   exact ⟨j + 1,by omega,by omega,Fit1.of_eq rfl,rfl⟩
  ·have:j=l.length:=by omega
   subst this
   have hf:fillG [.nl] rcell (fsts l) l.length l.length=(fsts l).map rcell:=fillG_all hn
   have hk5:List.take l.length (List.map rcell (fsts l))=List.map rcell (fsts l):=List.take_of_length_le (by simp)
   simp only [go_sem,Nat.lt_irrefl,hf,hk5,Nat.zero_add,Nat.le_refl,go_sem_proc]
   first | done | exact Le.refl _
theorem reckon_ok (l:List (List Val)) (ks:List Key) (hl:l.length ≤ 10000) (hk:ks.length ≤ 1000) (g:List Val → List Val) (hg:∀ r,(g r).length=ks.length)
  (hp:∀ (r:List Val) (i:Nat) (k:Key) (v:Val),r ∈ l → ks[i]?=some k → (g r)[i]?=some v → EvalR r k.e v 0) :
  Good Tryz.prog 28 [.c (rowsC l),.c (keysC ks)] [] (.tup [.c (keyedC (l.map fun r=>(r,g r))),cI 0]) []:=by
 refine Good.of_vmQ TT 4000 Tryz.func28 rfl rfl ?_
 unfold Tryz.f28
 simp only [go_sem,rowsC,keysC,go_sem_proc]
 refine ⟨⟨by omega,by omega⟩,?_⟩
 refine Lp.at TT 4000 2 (Nat.le_of_ble_eq_true rfl) [false,false,false,false,true,true,false,true,true,true,true,true,true,true,false,false,false,false,false,true,true,true,true,true,true,true,true,true,true,true,true,true,true,true,true,true,true,true,true,true,true,true,true,true,true,true,true,true,true,true,true,true,true,true,true,true] (fun j:Nat=>l.length - j) (fun j=>j ≤ l.length) (fun j=>[(19,cI j)]) (fun j=>[(1,.rows 2 69 (fillG [.nl,.nl] kcell (l.map fun r=>(r,g r)) l.length j))]) (0) (Nat.zero_le _) ?_ ?_
 ·simp only [go_sem,go_sem_proc]
  rw [fillG_zero]
 ·rintro j i1
  have hn:(l.map fun r=>(r,g r)).length=l.length:=List.length_map ..
  rcases Nat.lt_or_ge j l.length with hlt | hge
  ·obtain ⟨x,hx,hm,ht,hd⟩:=getS hlt
   have hw:=wrap_succ (j:=j) (by omega)
   have hG:=fillG_get (z:=[.nl,.nl]) (f:=kcell) hn hlt
   have hS:=fillG_set (z:=[.nl,.nl]) (f:=kcell) (v:=(x,g x)) hn hlt (by rw [List.getElem?_map,hx];rfl)
   simp only [kcell,rowC] at hS
   simp only [go_sem,hlt,hx,List.length_map,go_sem_proc]
   refine ⟨⟨by omega,by omega⟩,?_⟩
   have hgx:=hg x
   have hpx:=fun i k v=>hp x i k v hm
   refine Lp.at TT 4000 3 (Nat.le_of_ble_eq_true rfl) [false,false,false,false,true,true,false,false,false,false,true,true,true,true,false,false,false,false,false,false,false,false,false,false,false,false,false,false,false,true,true,true,true,true,true,true,true,true,true,true,true,true,true,true,true,true,true,true,true] (fun i:Nat=>ks.length - i) (fun i=>i ≤ ks.length) (fun i=>[(29,cI i)]) (fun i=>[(2,.rows 3 48 (fillX (g x) ks.length i))]) (0) (Nat.zero_le _) ?_ ?_
   ·simp only [go_sem,go_sem_proc]
    rw [show fillX (g x) ks.length 0=List.replicate ks.length [.int .i64 0,.int .i64 0,.str ⟨#[]⟩] by simp [fillX]]
   ·rintro i k1
    rcases Nat.lt_or_ge i ks.length with hlt2 | hge2
    ·obtain ⟨k,hkx,_,_,_⟩:=getS hlt2
     have hw2:=wrap_succ (j:=i) (by omega)
     obtain ⟨v,hv,_,_,_⟩:=getB hgx hlt2
     have hg2:=fillX_get hgx hlt2
     have hs2:=fillX_set hgx hlt2 hv
     simp only [go_sem,hlt2,hkx,go_sem_proc]
     refine Cl.pure TT 4000 (hpx i k v hkx hv) rfl rfl ?_
     simp only [go_sem,hlt2,hw2,hg2,hs2,Nat.zero_add,go_sem_proc]
     exact ⟨i + 1,by omega,by omega,Fit1.of_eq rfl,rfl⟩
    ·have:i=ks.length:=by omega
     subst this
     have hf:fillX (g x) ks.length ks.length=(g x).map Val.cs:=by simp [fillX,← hgx]
     have hk5:List.take ks.length (List.map Val.cs (g x))=List.map Val.cs (g x):=List.take_of_length_le (by simp [hgx])
     simp only [go_sem,Nat.lt_irrefl,hf,hk5,hlt,hG,hS,hw,Nat.zero_add,Nat.le_refl,List.length_map,hgx,go_sem_proc]
     exact ⟨j + 1,by omega,by omega,Fit1.of_eq rfl,rfl⟩
  ·have:j=l.length:=by omega
   subst this
   have hf:fillG [.nl,.nl] kcell (l.map fun r=>(r,g r)) l.length l.length=(l.map fun r=>(r,g r)).map kcell:=fillG_all hn
   have hk5:List.take l.length (List.map kcell (l.map fun r=>(r,g r)))=List.map kcell (l.map fun r=>(r,g r)):=List.take_of_length_le (by simp)
   simp only [go_sem,Nat.lt_irrefl,hf,hk5,Nat.zero_add,Nat.le_refl,keyedC,go_sem_proc]
   first | done | exact Le.refl _
theorem reckon_err (l:List (List Val)) (ks:List Key) (hl:l.length ≤ 10000) (hk:ks.length ≤ 1000) (g:List Val → List Val) (hg:∀ r,(g r).length=ks.length)
  (a b:Nat) (hp:∀ (j:Nat) (r:List Val) (i:Nat) (k:Key) (v:Val),(j < a ∨ (j=a ∧ i < b)) → l[j]?=some r → ks[i]?=some k → (g r)[i]?=some v → EvalR r k.e v 0)
  {y:List Val} {k0:Key} {w:Val} {f:Int} (hy:l[a]?=some y) (hk0:ks[b]?=some k0) (hf:f ≠ 0) (he:EvalR y k0.e w f) :
  Good Tryz.prog 28 [.c (rowsC l),.c (keysC ks)] [] (.tup [.c (keyedC []),cI f]) []:=by
 have hf':(f != 0)=true:=by simp [hf]
 have hal:=(List.getElem?_eq_some_iff.1 hy).1
 have hbl:=(List.getElem?_eq_some_iff.1 hk0).1
 refine Good.of_vmQ TT 4000 Tryz.func28 rfl rfl ?_
 unfold Tryz.f28
 simp only [go_sem,rowsC,keysC,go_sem_proc]
 refine ⟨⟨by omega,by omega⟩,?_⟩
 refine Lp.at TT 4000 2 (Nat.le_of_ble_eq_true rfl) [false,false,false,false,true,true,false,true,true,true,true,true,true,true,false,false,false,false,false,true,true,true,true,true,true,true,true,true,true,true,true,true,true,true,true,true,true,true,true,true,true,true,true,true,true,true,true,true,true,true,true,true,true,true,true,true] (fun j:Nat=>l.length - j) (fun j=>j ≤ a) (fun j=>[(19,cI j)]) (fun j=>[(1,.rows 2 69 (fillG [.nl,.nl] kcell (l.map fun r=>(r,g r)) l.length j))]) (0) (Nat.zero_le _) ?_ ?_
 ·simp only [go_sem,go_sem_proc]
  rw [fillG_zero]
 ·rintro j i1
  have hn:(l.map fun r=>(r,g r)).length=l.length:=List.length_map ..
  have hlt:j < l.length:=by omega
  rcases Nat.lt_or_ge j a with hja | hja
  ·obtain ⟨x,hx,hm,ht,hd⟩:=getS hlt
   have hw:=wrap_succ (j:=j) (by omega)
   have hG:=fillG_get (z:=[.nl,.nl]) (f:=kcell) hn hlt
   have hS:=fillG_set (z:=[.nl,.nl]) (f:=kcell) (v:=(x,g x)) hn hlt (by rw [List.getElem?_map,hx];rfl)
   simp only [kcell,rowC] at hS
   simp only [go_sem,hlt,hx,List.length_map,go_sem_proc]
   refine ⟨⟨by omega,by omega⟩,?_⟩
   have hgx:=hg x
   have hpx:=fun i k v=>hp j x i k v (.inl hja) hx
   refine Lp.at TT 4000 3 (Nat.le_of_ble_eq_true rfl) [false,false,false,false,true,true,false,false,false,false,true,true,true,true,false,false,false,false,false,false,false,false,false,false,false,false,false,false,false,true,true,true,true,true,true,true,true,true,true,true,true,true,true,true,true,true,true,true,true] (fun i:Nat=>ks.length - i) (fun i=>i ≤ ks.length) (fun i=>[(29,cI i)]) (fun i=>[(2,.rows 3 48 (fillX (g x) ks.length i))]) (0) (Nat.zero_le _) ?_ ?_
   ·simp only [go_sem,go_sem_proc]
    rw [show fillX (g x) ks.length 0=List.replicate ks.length [.int .i64 0,.int .i64 0,.str ⟨#[]⟩] by simp [fillX]]
   ·rintro i k1
    rcases Nat.lt_or_ge i ks.length with hlt2 | hge2
    ·obtain ⟨k,hkx,_,_,_⟩:=getS hlt2
     have hw2:=wrap_succ (j:=i) (by omega)
     obtain ⟨v,hv,_,_,_⟩:=getB hgx hlt2
     have hg2:=fillX_get hgx hlt2
     have hs2:=fillX_set hgx hlt2 hv
     simp only [go_sem,hlt2,hkx,go_sem_proc]
     refine Cl.pure TT 4000 (hpx i k v hkx hv) rfl rfl ?_
     simp only [go_sem,hlt2,hw2,hg2,hs2,Nat.zero_add,go_sem_proc]
     exact ⟨i + 1,by omega,by omega,Fit1.of_eq rfl,rfl⟩
    ·have:i=ks.length:=by omega
     subst this
     have hf:fillX (g x) ks.length ks.length=(g x).map Val.cs:=by simp [fillX,← hgx]
     have hk5:List.take ks.length (List.map Val.cs (g x))=List.map Val.cs (g x):=List.take_of_length_le (by simp [hgx])
     simp only [go_sem,Nat.lt_irrefl,hf,hk5,hlt,hG,hS,hw,Nat.zero_add,Nat.le_refl,List.length_map,hgx,go_sem_proc]
     exact ⟨j + 1,by omega,by omega,Fit1.of_eq rfl,rfl⟩
  ·have hja2:j=a:=by omega
   subst hja2
   obtain ⟨x,hx,hm,ht,hd⟩:=getS hlt
   have hw:=wrap_succ (j:=j) (by omega)
   have hG:=fillG_get (z:=[.nl,.nl]) (f:=kcell) hn hlt
   have hS:=fillG_set (z:=[.nl,.nl]) (f:=kcell) (v:=(x,g x)) hn hlt (by rw [List.getElem?_map,hx];rfl)
   simp only [kcell,rowC] at hS
   simp only [go_sem,hlt,hx,List.length_map,go_sem_proc]
   refine ⟨⟨by omega,by omega⟩,?_⟩
   have hgx:=hg x
   have hpx:=fun i k v=>hp j x i k v
   refine Lp.at TT 4000 3 (Nat.le_of_ble_eq_true rfl) [false,false,false,false,true,true,false,false,false,false,true,true,true,true,false,false,false,false,false,false,false,false,false,false,false,false,false,false,false,true,true,true,true,true,true,true,true,true,true,true,true,true,true,true,true,true,true,true,true] (fun i:Nat=>ks.length - i) (fun i=>i ≤ b) (fun i=>[(29,cI i)]) (fun i=>[(2,.rows 3 48 (fillX (g x) ks.length i))]) (0) (Nat.zero_le _) ?_ ?_
   ·simp only [go_sem,go_sem_proc]
    rw [show fillX (g x) ks.length 0=List.replicate ks.length [.int .i64 0,.int .i64 0,.str ⟨#[]⟩] by simp [fillX]]
   ·rintro i k1
    have hlt2:i < ks.length:=by omega
    rcases Nat.lt_or_ge i b with hib | hib
    ·obtain ⟨k,hkx,_,_,_⟩:=getS hlt2
     have hw2:=wrap_succ (j:=i) (by omega)
     obtain ⟨v,hv,_,_,_⟩:=getB hgx hlt2
     have hg2:=fillX_get hgx hlt2
     have hs2:=fillX_set hgx hlt2 hv
     simp only [go_sem,hlt2,hkx,go_sem_proc]
     refine Cl.pure TT 4000 (hpx i k v (.inr ⟨rfl,hib⟩) hx hkx hv) rfl rfl ?_
     simp only [go_sem,hlt2,hw2,hg2,hs2,Nat.zero_add,go_sem_proc]
     exact ⟨i + 1,by omega,by omega,Fit1.of_eq rfl,rfl⟩
    ·have:i=b:=by omega
     subst this
     rw [hx] at hy
     cases hy
     simp only [go_sem,hlt2,hk0,go_sem_proc]
     refine Cl.pure TT 4000 he rfl rfl ?_
     simp only [go_sem,hf',keyedC,go_sem_proc]
     first | done | exact Le.refl _
end Go.Ev
end
section
open Go Go.Proofs Go.RowKit
namespace Go.Ev
@[go_sem] def kscell (l:List Keyed):List CV:=[keyedC l]
def runsC (L:List (List Keyed)):CV:=.lst 1 false (L.map kscell)
theorem clone_nilK:Good Tryz.prog 49 [.c (runsC [])] [] (.c (runsC [])) []:=by
 refine Good.of_vmQ TT 4000 Tryz.func49 rfl rfl ?_
 unfold Tryz.f49
 simp only [go_sem,runsC,go_sem_proc]
 intro b
 cases b
 ·simp only [go_sem,go_sem_proc]
 ·simp only [go_sem,go_sem_proc]
theorem clone_consK (x:List Keyed) (l:List (List Keyed)) (h:l.length ≤ 1000000):Good Tryz.prog 49 [.c (runsC (x :: l))] [] (.sl 0 0 (x :: l).length) [.rows 1 61 ((x :: l).map kscell)]:=by
 have hallr:∀ l:List (List Keyed),(l.map kscell).all (fun y=>y.length == 1)=true:=fun l=>List.all_eq_true.2 fun y hy=>by
  obtain ⟨z,_,rfl⟩:=List.mem_map.1 hy
  rfl
 refine Good.of_vmA TT 4000 [2] Tryz.func49 rfl rfl ?_
 unfold Tryz.f49
 simp only [go_sem,runsC,hallr,go_sem_proc]
 exact ⟨by omega,by kernel_rfl,Le.of_eq (by rw [Nat.zero_add])⟩
def leastF (ks:List Key):List (List Keyed) → Nat → Option (Nat × Keyed) → Option (Nat × Keyed)
 | [],_,b=>b
 | [] :: H,i,b=>leastF ks H (i + 1) b
 | (x :: _) :: H,i,none=>leastF ks H (i + 1) (some (i,x))
 | (x :: _) :: H,i,some p=>if ordF ks x.2 p.2.2 < 0 then leastF ks H (i + 1) (some (i,x)) else leastF ks H (i + 1) (some p)
def tot (H:List (List Keyed)):Nat:=(H.map List.length).sum
def mergeF (ks:List Key):Nat → List (List Keyed) → List Keyed
 | 0,_=>[]
 | n + 1,H=>match leastF ks H 0 none with
  | none=>[]
  | some p=>p.2 :: mergeF ks n (H.set p.1 ((H.getD p.1 []).drop 1))
theorem tot_set:∀ (H:List (List Keyed)) (m:Nat) (y:Keyed) (t:List Keyed),H[m]?=some (y :: t) → tot (H.set m t) + 1=tot H
 | [],_,_,_,h=>by simp at h
 | a :: H,0,y,t,h=>by
  simp only [List.getElem?_cons_zero,Option.some.injEq] at h
  subst h
  simp only [tot,List.set_cons_zero,List.map_cons,List.sum_cons,List.length_cons]
  omega
 | a :: H,m + 1,y,t,h=>by
  rw [List.getElem?_cons_succ] at h
  have:=tot_set H m y t h
  simp only [tot,List.set_cons_succ,List.map_cons,List.sum_cons] at this ⊢
  omega
def encB:Option (Nat × Keyed) → Int
 | none=>-1
 | some p=>p.1
def HeadOf (H:List (List Keyed)) (b:Option (Nat × Keyed)):Prop:=∀ p,b=some p → ∃ t,H[p.1]?=some (p.2 :: t)
theorem merge_nilK (ks:List Key):Good Tryz.prog 34 [.c (orderC ks),.c (runsC [])] [] (.c (keyedC [])) []:=by
 refine Good.of_vmQ TT 4000 Tryz.func34 rfl rfl ?_
 unfold Tryz.f34
 simp only [go_sem,orderC,go_sem_proc]
 refine Cl.pure TT 4000 clone_nilK rfl rfl ?_
 simp only [go_sem,runsC,go_sem_proc]
 refine Lp.at TT 4000 2 (Nat.le_of_ble_eq_true rfl) [false,false,false,false,true,false,true,true,true,true,false,false,true,true,true,true,true,true,true,true,true,true,true,true,true,true,true,true,true,true,true,true,true,true,true,true,true,true,true,true,true,true,true,true,true,true,true,true,true,true,true,true,true,true,true,true,true,true,true,true,true,true] (fun _:Unit=>0) (fun _=>True) (fun _=>[(6,.sl 1 0 0)]) (fun _=>[(1,.rows 2 69 [])]) (()) (trivial) ?_ ?_
 ·simp only [go_sem,go_sem_proc]
  first | done | rfl
 ·rintro _ _
  simp only [go_sem,go_sem_proc]
  refine Lp.at TT 4000 2 (Nat.le_of_ble_eq_true rfl) [false,false,false,false,false,false,false,true,true,true,false,false,false,false,true,true,true,true,true,true,true,true,true,true,true,true,true,true,true,true,true,true,true,true,true,true,true,true,true,true,true,true] (fun _:Unit=>0) (fun _=>True) (fun _=>[(7,cI (-1)),(14,cI 0)]) (fun _=>[]) (()) (trivial) ?_ ?_
  ·simp only [go_sem,go_sem_proc]
   first | done | rfl
  ·rintro _ _
   simp only [go_sem,keyedC,go_sem_proc]
   first | done | exact Le.refl _
theorem merge_consK (ks:List Key) (hk:ks.length ≤ 1000) (x0:List Keyed) (l0:List (List Keyed)) (hl0:(x0 :: l0).length ≤ 10000) (ht0:tot (x0 :: l0) ≤ 10000) (hq:∀ h,h ∈ x0 :: l0 → ∀ q,q ∈ h → q.2.length=ks.length) :
  Good Tryz.prog 34 [.c (orderC ks),.c (runsC (x0 :: l0))] [] (.c (keyedC (mergeF ks (tot (x0 :: l0)) (x0 :: l0)))) []:=by
 have hc:=clone_consK x0 l0 (by rw [List.length_cons] at hl0;omega)
 generalize x0 :: l0=H0 at *
 obtain ⟨Z,hZ⟩:∃ Z,Z=mergeF ks (tot H0) H0:=⟨_,rfl⟩
 rw [← hZ]
 refine Good.of_vmQ TT 4000 Tryz.func34 rfl rfl ?_
 unfold Tryz.f34
 simp only [go_sem,orderC,go_sem_proc]
 refine Cl.frame TT 4000 [] hc rfl (by simp only [go_sem,go_sem_proc]) rfl (Nat.zero_le _) ?_
 simp only [go_sem,runsC,go_sem_proc]
 refine Lp.atP TT 4000 0 (Nat.le_of_ble_eq_true rfl) [false,false,false,false,true,false,true,true,true,true,false,false,true,true,true,true,true,true,true,true,true,true,true,true,true,true,true,true,true,true,true,true,true,true,true,true,true,true,true,true,true,true,true,true,true,true,true,true,true,true,true,true,true,true,true,true,true,true,true,true,true,true] (fun s:List (List Keyed) × List Keyed=>tot s.1) (fun s=>s.1.length=H0.length ∧ s.2.length + tot s.1=tot H0 ∧ Z=s.2 ++ mergeF ks (tot s.1) s.1 ∧ (∀ h,h ∈ s.1 → ∀ q,q ∈ h → q.2.length=ks.length)) (fun s=>[(4,.dead),(11,.dead),(5,.sl 0 0 H0.length),(6,.sl 1 0 s.2.length)]) (fun s=>[.rows 1 61 (s.1.map kscell),.rows 2 69 (s.2.map kcell)]) [1,2] ((H0,[])) (⟨rfl,by simp,by simpa using hZ,hq⟩) ?_ ?_
 ·simp only [go_sem,go_sem_proc]
  first | done | rfl
 ·rintro ⟨H,O⟩ ⟨i1,i2,i3,i4⟩
  simp only at i1 i2 i3 i4
  obtain ⟨R,hR⟩:∃ R,R=leastF ks H 0 none:=⟨_,rfl⟩
  simp only [go_sem,go_sem_proc]
  refine Lp.at TT 4000 2 (Nat.le_of_ble_eq_true rfl) [false,false,false,false,false,false,false,true,true,true,false,false,false,false,true,true,true,true,true,true,true,true,true,true,true,true,true,true,true,true,true,true,true,true,true,true,true,true,true,true,true,true] (fun s:Nat × Option (Nat × Keyed)=>H.length - s.1) (fun s=>s.1 ≤ H.length ∧ R=leastF ks (H.drop s.1) s.1 s.2 ∧ HeadOf H s.2) (fun s=>[(7,cI (encB s.2)),(14,cI s.1)]) (fun _=>[]) ((0,none)) (⟨Nat.zero_le _,hR,fun p h=>nomatch h⟩) ?_ ?_
  ·simp only [go_sem,encB,go_sem_proc]
   first | done | rfl
  ·rintro ⟨i,b⟩ ⟨k1,k2,k3⟩
   simp only at k1 k2 k3
   rcases Nat.lt_or_ge i H.length with hlt | hge
   ·obtain ⟨h,hx,hm,_,hd⟩:=getS hlt
    have hw:=wrap_succ (j:=i) (by omega)
    have hlt':i < H0.length:=by omega
    rw [hd] at k2
    cases h with
    | nil =>
     rw [leastF] at k2
     simp only [go_sem,hlt',hx,i1,List.length_map,Nat.zero_add,go_sem_proc]
     refine Dr.of TT (by kernel_rfl) [] trivial ?_
     simp only [go_sem,keyedC,List.map_nil,List.length_nil,go_sem_proc]
     refine DEnd.of TT 4000 (memOK_of2 (by kernel_rfl)) ?_
     simp only [go_sem,hw,go_sem_proc]
     exact ⟨(i + 1,b),by simp only;omega,⟨by simp only;omega,k2,k3⟩,⟨Fit1.of_eq rfl,Fit1.of_eq rfl⟩⟩
    | cons x t =>
     have hlen0:((0:Int) < ((t.length + 1:Nat):Int))=True:=by simp
     have hlen1:0 < t.length + 1:=by omega
     cases b with
     | none =>
      rw [leastF] at k2
      simp only [go_sem,hlt',hx,i1,List.length_map,Nat.zero_add,encB,go_sem_proc]
      refine Dr.of TT (by kernel_rfl) [] trivial ?_
      simp only [go_sem,keyedC,List.map_cons,List.length_cons,List.length_map,hlen0,go_sem_proc]
      refine DEnd.of TT 4000 (memOK_of2 (by kernel_rfl)) ?_
      simp only [go_sem,hw,go_sem_proc]
      refine ⟨(i + 1,some (i,x)),by simp only;omega,⟨by simp only;omega,k2,fun p hp=>?_⟩,⟨Fit1.of_eq rfl,Fit1.of_eq rfl⟩⟩
      cases hp
      exact ⟨t,hx⟩
     | some p =>
      rw [leastF] at k2
      obtain ⟨tp,htp⟩:=k3 p rfl
      have hpl:p.1 < H0.length:=by have:=(List.getElem?_eq_some_iff.1 htp).1;omega
      have hneg:(((p.1:Nat):Int) < 0)=False:=by simp
      have hx2:=i4 _ hm x (List.mem_cons_self ..)
      have hp2:=i4 _ (List.mem_of_getElem? htp) p.2 (List.mem_cons_self ..)
      have ho:=order1_good ks x p.2 hx2 hp2 hk
      have hlp1:0 < tp.length + 1:=by omega
      simp only [go_sem,hlt',hx,i1,List.length_map,Nat.zero_add,encB,go_sem_proc]
      refine Dr.of TT (by kernel_rfl) [(46,[.agg [.c (rowC x.1),.c (rowC x.2)],.agg [.c (rowC p.2.1),.c (rowC p.2.2)],.rd [keysC ks]],cI (ordF ks x.2 p.2.2))] ⟨⟨ho,rfl⟩,trivial⟩ ?_
      clear ho
      generalize ordF ks x.2 p.2.2=o at k2 ⊢
      simp only [go_sem,keyedC,List.map_cons,List.length_cons,List.length_map,hlen0,hlen1,hneg,htp,hpl,hlp1,Nat.zero_add,Option.map_some,List.getElem?_cons_zero,go_sem_proc]
      refine ⟨by omega,DEnd.of TT 4000 (memOK_of2 (by kernel_rfl)) ?_⟩
      by_cases ho:o < 0
      ·have ho1:(o < 0)=True:=eq_true ho
       rw [if_pos ho] at k2
       simp only [go_sem,ho1,hw,go_sem_proc]
       refine ⟨(i + 1,some (i,x)),by simp only;omega,⟨by simp only;omega,k2,fun p hp=>?_⟩,⟨Fit1.of_eq rfl,Fit1.of_eq rfl⟩⟩
       cases hp
       exact ⟨t,hx⟩
      ·have ho1:(o < 0)=False:=eq_false ho
       rw [if_neg ho] at k2
       simp only [go_sem,ho1,hw,go_sem_proc]
       exact ⟨(i + 1,some p),by simp only;omega,⟨by simp only;omega,k2,k3⟩,⟨Fit1.of_eq rfl,Fit1.of_eq rfl⟩⟩
   ·have:i=H.length:=by omega
    subst this
    rw [List.drop_length,leastF] at k2
    rw [k2] at hR
    clear k2
    cases b with
    | none =>
     have hm0:mergeF ks (tot H) H=[]:=by
      cases tot H with
      | zero=>rfl
      | succ n=>rw [mergeF,← hR]
     rw [hm0,List.append_nil] at i3
     have hk5:List.take O.length (List.map kcell O)=List.map kcell O:=List.take_of_length_le (by simp)
     simp only [go_sem,i1,Nat.lt_irrefl,List.length_map,encB,hk5,Nat.zero_add,Nat.le_refl,i3,keyedC,go_sem_proc]
     first | done | exact Le.refl _
    | some p =>
     obtain ⟨tp,htp⟩:=k3 p rfl
     have hpl:p.1 < H0.length:=by have:=(List.getElem?_eq_some_iff.1 htp).1;omega
     have hneg:(((p.1:Nat):Int) < 0)=False:=by simp
     have hts:=tot_set H p.1 p.2 tp htp
     have hlp1:0 < tp.length + 1:=by omega
     have hallr:(List.map kcell O).all (fun y=>y.length == 2)=true:=List.all_eq_true.2 fun y hy=>by
      obtain ⟨z,_,rfl⟩:=List.mem_map.1 hy
      rfl
     simp only [go_sem,i1,Nat.lt_irrefl,List.length_map,encB,hneg,htp,hpl,hlp1,Nat.zero_add,Option.map_some,List.map_cons,List.length_cons,List.getElem?_cons_zero,keyedC,hallr,go_sem_proc]
     have hk6:List.take tp.length (List.map kcell tp)=List.map kcell tp:=List.take_of_length_le (by simp)
     have hgd:(H.getD p.1 []).drop 1=tp:=by rw [List.getD_eq_getElem?_getD,htp];rfl
     obtain ⟨n,hn⟩:∃ n,tot H=n + 1:=⟨tot H - 1,by omega⟩
     rw [hn,mergeF,← hR] at i3
     simp only [hgd] at i3
     have hn2:tot (H.set p.1 tp)=n:=by omega
     refine ⟨by omega,by omega,by omega,(H.set p.1 tp,O ++ [p.2]),[0,3],by simp only;omega,⟨by simp only [List.length_set];exact i1,by simp only [List.length_append,List.length_singleton];omega,by simp only;rw [hn2,i3,List.append_assoc];rfl,fun h hh q hqm=>?_⟩,rfl,⟨Fit1.of_eq rfl,Fit1.of_eq (congrArg (AV.sl 1 0) (by simp))⟩,?_⟩
     ·rcases List.mem_or_eq_of_mem_set hh with h1 | h1
      ·exact i4 h h1 q hqm
      ·subst h1
       exact i4 _ (List.mem_of_getElem? htp) q (List.mem_cons_of_mem _ hqm)
     ·rw [hk6]
      simp only [List.map_set,List.map_append,List.map_cons,List.map_nil]
      rfl
end Go.Ev
end
section
open Go Go.Proofs Go.RowKit
namespace Go.Ev
theorem merge_good (ks:List Key) (hk:ks.length ≤ 1000) (H:List (List Keyed)) (hl0:H.length ≤ 10000) (ht0:tot H ≤ 10000) (hq:∀ h,h ∈ H → ∀ q,q ∈ h → q.2.length=ks.length) :
  Good Tryz.prog 34 [.c (orderC ks),.c (runsC H)] [] (.c (keyedC (mergeF ks (tot H) H))) []:=by
 cases H with
 | nil=>exact merge_nilK ks
 | cons x l=>exact merge_consK ks hk x l hl0 ht0 hq
end Go.Ev
end
