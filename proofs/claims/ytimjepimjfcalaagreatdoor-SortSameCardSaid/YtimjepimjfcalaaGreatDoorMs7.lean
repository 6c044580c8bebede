import Derived.Test.YtimjepimjfcalaaGreatDoorMs6
import Derived.Test.YtimjepimjfcalaaGreatDoorMs1
import Derived.Test.YtimjepimjfcalaaGreatDoorMe2
set_option linter.all false
set_option maxRecDepth 100000
set_option maxHeartbeats 8000000
section
open Go Go.Proofs Go.RowKit
namespace Go.Ev
theorem r11_values_ok (es:List Expr) (r:List Val) (hb:es.length ≤ 1000) (g:Expr → Val) (hv:∀ x,x ∈ es → RefR r x (g x) 0) :
  Good Tryz.prog 50 [.c (.lst 7 false (es.map Expr.cs)),.c (rowC r)] [] (.tup [.c (rowC (es.map g)),cI 0]) []:=by
 refine Good.of_vmQ TT 4000 Tryz.func50 rfl rfl ?_
 unfold Tryz.f50
 simp only [go_sem,go_sem_proc]
 refine Lp.atP TT 4000 0 (Nat.le_of_ble_eq_true rfl) [false,false,false,false,true,true,true,false,true,true,true,false,false,true,true,true,true,true,true,true,true,true,true,true,true,true,true,true,true,true,true] (fun j:Nat=>es.length - j) (fun j=>j ≤ es.length) (fun j=>[(4,.dead),(6,.sl 0 0 j),(13,cI j)]) (fun j=>[.rows 3 48 (((es.map g).take j).map Val.cs)]) [1] (0) (Nat.zero_le _) ?_ ?_
 ·simp only [go_sem,go_sem_proc]
  first | done | rfl
 ·rintro j i1
  rcases Nat.lt_or_ge j es.length with hlt | hge
  ·obtain ⟨x,hx,hm,ht,hd⟩:=getS hlt
   have hw:=wrap_succ (j:=j) (by omega)
   have hvx:=hv x hm
   have hmin:min j es.length=j:=Nat.min_eq_left (by omega)
   have hnext:List.map Val.cs (List.take j (es.map g)) ++ [[.int .i64 (g x).k,.int .i64 (g x).i,.str (g x).s]]=List.map Val.cs (List.take (j + 1) (es.map g)):=by
    rw [← List.map_take,← List.map_take,ht,List.map_append,List.map_append];rfl
   have hall:((List.take j (es.map g)).map Val.cs).all (fun y=>y.length == 3)=true:=List.all_eq_true.2 fun y hy=>by
    obtain ⟨z,_,rfl⟩:=List.mem_map.1 hy
    rfl
   simp only [go_sem,hlt,hx,go_sem_proc]
   refine Cl.pure TT 4000 hvx rfl rfl ?_
   simp only [go_sem,hw,hmin,hall,List.length_map,List.length_take,Nat.zero_add,hnext,go_sem_proc]
   exact ⟨by omega,j + 1,[4],by omega,by omega,rfl,⟨Fit1.of_eq rfl,Fit1.of_eq rfl⟩,rfl⟩
  ·have:j=es.length:=by omega
   subst this
   have hk:List.take es.length (es.map g)=es.map g:=List.take_of_length_le (by simp)
   have hk2:List.take es.length (List.map Val.cs (es.map g))=List.map Val.cs (es.map g):=List.take_of_length_le (by simp)
   simp only [go_sem,Nat.lt_irrefl,hk,hk2,rowC,List.length_map,Nat.zero_add,Nat.le_refl,go_sem_proc]
   first | done | exact Le.refl _
theorem r11_values_err (es:List Expr) (r:List Val) (hb:es.length ≤ 1000) (g:Expr → Val) (k:Nat) (hv:∀ (j:Nat) x,j < k → es[j]?=some x → RefR r x (g x) 0) {y:Expr} {w:Val} {f:Int} (hy:es[k]?=some y) (hf:f ≠ 0) (he:RefR r y w f) :
  Good Tryz.prog 50 [.c (.lst 7 false (es.map Expr.cs)),.c (rowC r)] [] (.tup [.c (rowC []),cI f]) []:=by
 have hf':(f != 0)=true:=by simp [hf]
 have hkl:=(List.getElem?_eq_some_iff.1 hy).1
 refine Good.of_vmQ TT 4000 Tryz.func50 rfl rfl ?_
 unfold Tryz.f50
 simp only [go_sem,go_sem_proc]
 refine Lp.atP TT 4000 0 (Nat.le_of_ble_eq_true rfl) [false,false,false,false,true,true,true,false,true,true,true,false,false,true,true,true,true,true,true,true,true,true,true,true,true,true,true,true,true,true,true] (fun j:Nat=>es.length - j) (fun j=>j ≤ k) (fun j=>[(4,.dead),(6,.sl 0 0 j),(13,cI j)]) (fun j=>[.rows 3 48 (((es.map g).take j).map Val.cs)]) [1] (0) (Nat.zero_le _) ?_ ?_
 ·simp only [go_sem,go_sem_proc]
  first | done | rfl
 ·rintro j i1
  have hlt:j < es.length:=by omega
  rcases Nat.lt_or_ge j k with hj | hj
  ·obtain ⟨x,hx,hm,ht,hd⟩:=getS hlt
   have hw:=wrap_succ (j:=j) (by omega)
   have hvx:=hv j x hj hx
   have hmin:min j es.length=j:=Nat.min_eq_left (by omega)
   have hnext:List.map Val.cs (List.take j (es.map g)) ++ [[.int .i64 (g x).k,.int .i64 (g x).i,.str (g x).s]]=List.map Val.cs (List.take (j + 1) (es.map g)):=by
    rw [← List.map_take,← List.map_take,ht,List.map_append,List.map_append];rfl
   have hall:((List.take j (es.map g)).map Val.cs).all (fun y=>y.length == 3)=true:=List.all_eq_true.2 fun y hy=>by
    obtain ⟨z,_,rfl⟩:=List.mem_map.1 hy
    rfl
   simp only [go_sem,hlt,hx,go_sem_proc]
   refine Cl.pure TT 4000 hvx rfl rfl ?_
   simp only [go_sem,hw,hmin,hall,List.length_map,List.length_take,Nat.zero_add,hnext,go_sem_proc]
   exact ⟨by omega,j + 1,[4],by omega,by omega,rfl,⟨Fit1.of_eq rfl,Fit1.of_eq rfl⟩,rfl⟩
  ·have:j=k:=by omega
   subst this
   simp only [go_sem,hlt,hy,go_sem_proc]
   refine Cl.pure TT 4000 he rfl rfl ?_
   simp only [go_sem,hf',rowC,go_sem_proc]
   first | done | exact Le.refl _
theorem r11_Project_ok (l:List (List Val)) (es:List Expr) (hl:l.length ≤ 1000000) (g:List Val → List Val)
  (hv:∀ r,r ∈ l → Good Tryz.prog 50 [.c (.lst 7 false (es.map Expr.cs)),.c (rowC r)] [] (.tup [.c (rowC (g r)),cI 0]) []) :
  Good Tryz.prog 38 [.c (rowsC l),.c (.lst 7 false (es.map Expr.cs))] [] (.tup [.c (rowsC (l.map g)),cI 0]) []:=by
 refine Good.of_vmQ TT 4000 Tryz.func38 rfl rfl ?_
 unfold Tryz.f38
 simp only [go_sem,rowsC,go_sem_proc]
 refine Lp.atP TT 4000 0 (Nat.le_of_ble_eq_true rfl) [false,false,false,false,true,true,true,false,true,true,true,false,false,true,true,true,true,true,true,true,true,true,true,true,true,true,true,true,true,true,true] (fun j:Nat=>l.length - j) (fun j=>j ≤ l.length) (fun j=>[(4,.dead),(6,.sl 0 0 j),(13,cI j)]) (fun j=>[.rows 1 38 ((l.take j).map fun r=>[CV.lst 3 false ((g r).map Val.cs)])]) [1] (0) (Nat.zero_le _) ?_ ?_
 ·simp only [go_sem,go_sem_proc]
  first | done | rfl
 ·rintro j i1
  rcases Nat.lt_or_ge j l.length with hlt | hge
  ·obtain ⟨x,hx,hm,ht,hd⟩:=getS hlt
   have hw:=wrap_succ (j:=j) (by omega)
   have hvx:=hv x hm
   have hmin:min j l.length=j:=Nat.min_eq_left (by omega)
   have hall:((l.take j).map fun r=>[CV.lst 3 false ((g r).map Val.cs)]).all (fun y=>y.length == 1)=true:=List.all_eq_true.2 fun y hy=>by
    obtain ⟨z,_,rfl⟩:=List.mem_map.1 hy
    rfl
   have hnext:List.map (fun r=>[CV.lst 3 false ((g r).map Val.cs)]) (l.take j) ++ [[CV.lst 3 false ((g x).map Val.cs)]]=List.map (fun r=>[CV.lst 3 false ((g r).map Val.cs)]) (l.take (j + 1)):=by
    rw [ht,List.map_append];rfl
   simp only [go_sem,hlt,hx,go_sem_proc]
   refine Cl.pure TT 4000 hvx rfl rfl ?_
   simp only [go_sem,hw,hmin,hall,List.length_map,List.length_take,Nat.zero_add,hnext,go_sem_proc]
   exact ⟨by omega,j + 1,[2],by omega,by omega,rfl,⟨Fit1.of_eq rfl,Fit1.of_eq rfl⟩,rfl⟩
  ·have:j=l.length:=by omega
   subst this
   have hk:∀ f:List Val → List CV,List.take l.length (l.map f)=l.map f:=fun f=>List.take_of_length_le (by simp)
   simp only [go_sem,Nat.lt_irrefl,hk,List.map_take,List.length_map,Nat.zero_add,Nat.le_refl,List.map_map,Function.comp_def,go_sem_proc]
   first | done | exact Le.refl _
theorem r11_Project_err (l:List (List Val)) (es:List Expr) (hl:l.length ≤ 1000000) (g:List Val → List Val)
  (k:Nat) (hv:∀ (j:Nat) r,j < k → l[j]?=some r → Good Tryz.prog 50 [.c (.lst 7 false (es.map Expr.cs)),.c (rowC r)] [] (.tup [.c (rowC (g r)),cI 0]) [])
  {y:List Val} {f:Int} (hy:l[k]?=some y) (hf:f ≠ 0) (he:Good Tryz.prog 50 [.c (.lst 7 false (es.map Expr.cs)),.c (rowC y)] [] (.tup [.c (rowC []),cI f]) []) :
  Good Tryz.prog 38 [.c (rowsC l),.c (.lst 7 false (es.map Expr.cs))] [] (.tup [.c (rowsC []),cI f]) []:=by
 have hf':(f != 0)=true:=by simp [hf]
 have hkl:=(List.getElem?_eq_some_iff.1 hy).1
 refine Good.of_vmQ TT 4000 Tryz.func38 rfl rfl ?_
 unfold Tryz.f38
 simp only [go_sem,rowsC,go_sem_proc]
 refine Lp.atP TT 4000 0 (Nat.le_of_ble_eq_true rfl) [false,false,false,false,true,true,true,false,true,true,true,false,false,true,true,true,true,true,true,true,true,true,true,true,true,true,true,true,true,true,true] (fun j:Nat=>l.length - j) (fun j=>j ≤ k) (fun j=>[(4,.dead),(6,.sl 0 0 j),(13,cI j)]) (fun j=>[.rows 1 38 ((l.take j).map fun r=>[CV.lst 3 false ((g r).map Val.cs)])]) [1] (0) (Nat.zero_le _) ?_ ?_
 ·simp only [go_sem,go_sem_proc]
  first | done | rfl
 ·rintro j i1
  have hlt:j < l.length:=by omega
  rcases Nat.lt_or_ge j k with hj | hj
  ·obtain ⟨x,hx,hm,ht,hd⟩:=getS hlt
   have hw:=wrap_succ (j:=j) (by omega)
   have hvx:=hv j x hj hx
   have hmin:min j l.length=j:=Nat.min_eq_left (by omega)
   have hall:((l.take j).map fun r=>[CV.lst 3 false ((g r).map Val.cs)]).all (fun y=>y.length == 1)=true:=List.all_eq_true.2 fun y hy=>by
    obtain ⟨z,_,rfl⟩:=List.mem_map.1 hy
    rfl
   have hnext:List.map (fun r=>[CV.lst 3 false ((g r).map Val.cs)]) (l.take j) ++ [[CV.lst 3 false ((g x).map Val.cs)]]=List.map (fun r=>[CV.lst 3 false ((g r).map Val.cs)]) (l.take (j + 1)):=by
    rw [ht,List.map_append];rfl
   simp only [go_sem,hlt,hx,go_sem_proc]
   refine Cl.pure TT 4000 hvx rfl rfl ?_
   simp only [go_sem,hw,hmin,hall,List.length_map,List.length_take,Nat.zero_add,hnext,go_sem_proc]
   exact ⟨by omega,j + 1,[2],by omega,by omega,rfl,⟨Fit1.of_eq rfl,Fit1.of_eq rfl⟩,rfl⟩
  ·have:j=k:=by omega
   subst this
   simp only [go_sem,hlt,hy,go_sem_proc]
   refine Cl.pure TT 4000 he rfl rfl ?_
   simp only [go_sem,hf',go_sem_proc]
   first | done | exact Le.refl _
end Go.Ev
end
section
open Go Go.Proofs Go.RowKit
namespace Go.Ev
structure Key where
 e:Expr
 desc:Bool
@[go_sem] def Key.cs (k:Key):List CV:=[.str k.e.op,.int .i64 k.e.v.k,.int .i64 k.e.v.i,.str k.e.v.s,.str k.e.table,.str k.e.name,.lst 7 false (k.e.l.map Expr.cs),.bool k.desc]
def keysC (l:List Key):CV:=.lst 8 false (l.map Key.cs)
def sgn (d:Bool) (n:Int):Int:=if d then -n else n
def ordF:List Key → List Val → List Val → Int
 | k :: ks,a :: l,b :: m=>if sgn k.desc (a.cmp b) ≠ 0 then sgn k.desc (a.cmp b) else ordF ks l m
 | _,_,_=>0
theorem cmp_bound (a b:Val):-1 ≤ a.cmp b ∧ a.cmp b ≤ 1:=by unfold Val.cmp;split <;> (try split) <;> omega
theorem getB {α:Type} {l:List α} {n j:Nat} (h:l.length=n) (hj:j < n):∃ x,l[j]?=some x ∧ x ∈ l ∧ l.take (j + 1)=l.take j ++ [x] ∧ l.drop j=x :: l.drop (j + 1):=getS (by omega)
theorem r11_Order (ks:List Key) (a b:List Val) (ha:a.length=ks.length) (hb:b.length=ks.length) (hk:ks.length ≤ 1000) :
  Good Tryz.prog 39 [.c (keysC ks),.c (rowC a),.c (rowC b)] [] (cI (ordF ks a b)) []:=by
 obtain ⟨F,hF⟩:∃ F,F=ordF ks a b:=⟨_,rfl⟩
 rw [← hF]
 refine Good.of_vmQ TT 4000 Tryz.func39 rfl rfl ?_
 unfold Tryz.f39
 simp only [go_sem,keysC,go_sem_proc]
 refine Lp.at TT 4000 0 (Nat.le_of_ble_eq_true rfl) [false,false,false,false,false,false,true,true,true,true,false,false,true,true,true,true,true,true,true,true,true,true,true,true,true,true,true,true,true,true,true,true,true,true] (fun j:Nat=>ks.length - j) (fun j=>j ≤ ks.length ∧ F=ordF (ks.drop j) (a.drop j) (b.drop j)) (fun j=>[(12,cI j)]) (fun _=>[]) (0) (⟨Nat.zero_le _,hF⟩) ?_ ?_
 ·simp only [go_sem,go_sem_proc]
  first | done | rfl
 ·rintro j ⟨i1,i2⟩
  rcases Nat.lt_or_ge j ks.length with hlt | hge
  ·obtain ⟨k,hx,hm,ht,hd⟩:=getS hlt
   obtain ⟨x,hx1,_,_,hd1⟩:=getB ha hlt
   obtain ⟨y,hx2,_,_,hd2⟩:=getB hb hlt
   have hw:=wrap_succ (j:=j) (by omega)
   have ha':j < a.length:=by omega
   have hb':j < b.length:=by omega
   rw [hd,hd1,hd2,ordF] at i2
   have hc:=cmp_bound x y
   have hn:IntKind.wrap .i64 (0 - x.cmp y) = - x.cmp y:=by rw [Int.zero_sub];exact wrap_id (by omega) (by omega)
   simp only [go_sem,hlt,hx,go_sem_proc]
   (refine Dr.of TT (by kernel_rfl) [(51,[x.av,y.av],cI (x.cmp y))] ⟨⟨ref_Compare x y,rfl⟩,trivial⟩ ?_;simp only [go_sem,hlt,hx1,hx2,ha',hb',hw,go_sem_proc];refine DEnd.of TT 4000 (memOK_quiet rfl) ?_;simp only [go_sem,hlt,hx1,hx2,ha',hb',hw,go_sem_proc])
   generalize x.cmp y=c at i2 hc hn ⊢
   cases hde:k.desc
   ·rw [hde] at i2
    simp only [sgn,Bool.false_eq_true,if_false] at i2
    simp only [go_sem,hde,hw,go_sem_proc]
    repeat' first | (refine vm_sym (by simp only [go_sem]) ?_ ?_ <;> intro hg <;> simp only [go_sem,hg,hw,go_sem_proc]) | (refine vm_br ?_ ?_ <;> intro hg <;> simp only [go_sem,hg,hw,go_sem_proc])
    ·simp only [bne_iff_ne,ne_eq] at hg
     rw [if_pos hg] at i2
     exact Le.of_eq (congrArg cI i2.symm)
    ·have hg':c=0:=by simpa using hg
     exact ⟨j + 1,by omega,⟨by omega,by rw [i2,if_neg (by simp [hg'])]⟩,Fit1.of_eq rfl⟩
   ·rw [hde] at i2
    simp only [sgn,if_true] at i2
    simp only [go_sem,hde,hw,hn,go_sem_proc]
    repeat' first | (refine vm_sym (by simp only [go_sem]) ?_ ?_ <;> intro hg <;> simp only [go_sem,hg,hw,hn,go_sem_proc]) | (refine vm_br ?_ ?_ <;> intro hg <;> simp only [go_sem,hg,hw,hn,go_sem_proc])
    ·simp only [bne_iff_ne,ne_eq] at hg
     rw [if_pos hg] at i2
     exact Le.of_eq (congrArg cI i2.symm)
    ·have hg':-c=0:=by simpa using hg
     exact ⟨j + 1,by omega,⟨by omega,by rw [i2,if_neg (by simp [hg'])]⟩,Fit1.of_eq rfl⟩
  ·have:j=ks.length:=by omega
   subst this
   rw [List.drop_length] at i2
   simp only [go_sem,Nat.lt_irrefl,go_sem_proc]
   rw [i2,ordF]
   ·first | done | exact Le.refl _
   ·simp
end Go.Ev
end
section
open Go Go.Proofs Go.RowKit
namespace Go.Ev
def posF (ks:List Key) (A:List (List Val)) (b:List Val):Nat → Nat
 | 0=>0
 | k + 1=>if ordF ks (A.getD k []) b > 0 then posF ks A b k else k + 1
theorem posF_le (ks:List Key) (A:List (List Val)) (b:List Val):∀ k,posF ks A b k ≤ k
 | 0=>Nat.le_refl _
 | k + 1=>by rw [posF];split;exact Nat.le_succ_of_le (posF_le ks A b k);exact Nat.le_refl _
def insF (ks:List Key) (s:List (List Val × List Val)) (p:List Val × List Val):List (List Val × List Val):=
 s.take (posF ks (s.map Prod.snd) p.2 s.length) ++ [p] ++ s.drop (posF ks (s.map Prod.snd) p.2 s.length)
def sortF (ks:List Key) (l:List (List Val × List Val)):List (List Val × List Val):=l.foldl (insF ks) []
theorem insF_len (ks:List Key) (s p):(insF ks s p).length=s.length + 1:=by
 have:=posF_le ks (s.map Prod.snd) p.2 s.length
 unfold insF
 simp only [List.length_append,List.length_take,List.length_drop,List.length_singleton]
 omega
theorem sortF_snoc (ks:List Key) (l:List (List Val × List Val)) (p):sortF ks (l ++ [p])=insF ks (sortF ks l) p:=by unfold sortF;rw [List.foldl_append];rfl
theorem foldl_len (ks:List Key):∀ (l s:List (List Val × List Val)),(l.foldl (insF ks) s).length=s.length + l.length
 | [],s=>by simp
 | p :: l,s=>by rw [List.foldl_cons,foldl_len ks l,insF_len,List.length_cons];omega
theorem sortF_len (ks:List Key) (l:List (List Val × List Val)):(sortF ks l).length=l.length:=by unfold sortF;rw [foldl_len];simp
theorem insF_mem (ks:List Key) (s:List (List Val × List Val)) (p q):q ∈ insF ks s p ↔ q=p ∨ q ∈ s:=by
 unfold insF
 rw [List.append_assoc,List.mem_append,List.mem_append,List.mem_singleton]
 constructor
 ·rintro (h | h | h)
  ·exact .inr (List.mem_of_mem_take h)
  ·exact .inl h
  ·exact .inr (List.mem_of_mem_drop h)
 ·rintro (h | h)
  ·exact .inr (.inl h)
  ·have:=List.take_append_drop (posF ks (s.map Prod.snd) p.2 s.length) s
   rw [← this,List.mem_append] at h
   exact h.elim .inl fun h=>.inr (.inr h)
theorem foldl_mem (ks:List Key):∀ (l s:List (List Val × List Val)) (q),q ∈ l.foldl (insF ks) s ↔ q ∈ l ∨ q ∈ s
 | [],s,q=>by simp
 | p :: l,s,q=>by rw [List.foldl_cons,foldl_mem ks l,insF_mem,List.mem_cons];exact ⟨fun h=>by rcases h with h | h | h <;> simp [h],fun h=>by rcases h with (h | h) | h <;> simp [h]⟩
theorem sortF_mem (ks:List Key) (l:List (List Val × List Val)) (q):q ∈ sortF ks l ↔ q ∈ l:=by unfold sortF;rw [foldl_mem];simp
@[go_sem] def rcell (r:List Val):List CV:=[rowC r]
abbrev fsts (s:List (List Val × List Val)):List (List Val):=s.map Prod.fst
abbrev snds (s:List (List Val × List Val)):List (List Val):=s.map Prod.snd
theorem r11_Sort_ok (ks:List Key) (l:List (List Val)) (hl:l.length ≤ 10000) (hk:ks.length ≤ 1000) (g:List Val → List Val) (hg:∀ r,(g r).length=ks.length)
  (hP:Good Tryz.prog 38 [.c (rowsC l),.c (.lst 7 false ((ks.map Key.e).map Expr.cs))] [] (.tup [.c (rowsC (l.map g)),cI 0]) []) :
  Good Tryz.prog 16 [.c (rowsC l),.c (keysC ks)] [] (.tup [.c (rowsC (fsts (sortF ks (l.map fun r=>(r,g r))))),cI 0]) []:=by
 obtain ⟨Z,hZ⟩:∃ Z,Z=fsts (sortF ks (l.map fun r=>(r,g r))):=⟨_,rfl⟩
 rw [← hZ]
 refine Good.of_vmQ TT 4000 Tryz.func16 rfl rfl ?_
 unfold Tryz.f16
 simp only [go_sem,keysC,go_sem_proc]
 refine Lp.atP TT 4000 0 (Nat.le_of_ble_eq_true rfl) [false,false,false,false,false,false,true,false,true,false,false,false,false,false,false,false,false,false,true,true,true,true,true,true,true,true,true,true] (fun j:Nat=>ks.length - j) (fun j=>j ≤ ks.length) (fun j=>[(4,.dead),(6,.sl 0 0 j),(18,cI j)]) (fun j=>[.rows 7 52 (((ks.map Key.e).take j).map Expr.cs)]) [1] (0) (Nat.zero_le _) ?_ ?_
 ·simp only [go_sem,go_sem_proc]
  first | done | rfl
 ·rintro j i1
  rcases Nat.lt_or_ge j ks.length with hlt | hge
  ·obtain ⟨x,hx,hm,ht,hd⟩:=getS hlt
   have hw:=wrap_succ (j:=j) (by omega)
   have hmin:min j ks.length=j:=Nat.min_eq_left (by omega)
   have hnext:List.map Expr.cs (List.take j (ks.map Key.e)) ++ [[.str x.e.op,.int .i64 x.e.v.k,.int .i64 x.e.v.i,.str x.e.v.s,.str x.e.table,.str x.e.name,.lst 7 false (x.e.l.map Expr.cs)]]=List.map Expr.cs (List.take (j + 1) (ks.map Key.e)):=by
    rw [← List.map_take,← List.map_take,ht,List.map_append,List.map_append,List.map_cons,List.map_nil,List.map_cons,List.map_nil,Expr.cs_eq]
   have hall:((List.take j (ks.map Key.e)).map Expr.cs).all (fun y=>y.length == 7)=true:=List.all_eq_true.2 fun y hy=>by
    obtain ⟨z,_,rfl⟩:=List.mem_map.1 hy
    rw [Expr.cs_len];rfl
   simp only [go_sem,hlt,hx,go_sem_proc]
   simp only [go_sem,hw,hmin,hall,List.length_map,List.length_take,Nat.zero_add,hnext,go_sem_proc]
   exact ⟨by omega,j + 1,[3],by omega,by omega,rfl,⟨Fit1.of_eq rfl,Fit1.of_eq rfl⟩,rfl⟩
  ·have:j=ks.length:=by omega
   subst this
   have hk1:List.take ks.length (ks.map Key.e)=ks.map Key.e:=List.take_of_length_le (by simp)
   have hk2:List.take ks.length (List.map Expr.cs (ks.map Key.e))=List.map Expr.cs (ks.map Key.e):=List.take_of_length_le (by simp)
   simp only [go_sem,Nat.lt_irrefl,hk1,go_sem_proc]
   refine Cl.pure TT 4000 hP (by simp only [go_sem,hk2,Nat.zero_add,Nat.le_refl,List.length_map,go_sem_proc]) rfl ?_
   simp only [go_sem,rowsC,go_sem_proc]
   have hlen:∀ j,j ≤ l.length → (sortF ks ((l.map fun r=>(r,g r)).take j)).length=j:=fun j hj=>by rw [sortF_len,List.length_take,List.length_map];exact Nat.min_eq_left hj
   refine Lp.atP TT 4000 0 (Nat.le_of_ble_eq_true rfl) [false,false,false,false,false,false,false,false,false,false,false,true,true,true,true,true,false,false,false,false,false,false,false,false,false,false,false,false,false,false,false,false,false,false,false,false,false,false,false,true,true,true,true,true,true,true,true,true,true,true,true,true,true,true,true,true,true,true,true,true,true,true,true,true,true,true,true,true,true,true,true,true,true,true,true,true,true,true,true,true,true,true,true,true,true,true,true,true,true,true] (fun j:Nat=>l.length - j) (fun j=>j ≤ l.length) (fun j=>[(4,.dead),(6,.dead),(30,.dead),(11,.sl 0 0 j),(12,.sl 1 0 j),(39,cI j)]) (fun j=>[.rows 1 38 ((fsts (sortF ks ((l.map fun r=>(r,g r)).take j))).map rcell),.rows 1 38 ((snds (sortF ks ((l.map fun r=>(r,g r)).take j))).map rcell)]) [1,2] (0) (Nat.zero_le _) ?_ ?_
   ·simp only [go_sem,go_sem_proc]
    exact ⟨by first | done | rfl,by first | done | rfl⟩
   ·rintro j i2
    rcases Nat.lt_or_ge j l.length with hlt | hge
    ·have hlj:=hlen j (by omega)
     have hlj1:=hlen (j + 1) (by omega)
     obtain ⟨x,hx,hm,ht,hd⟩:=getS hlt
     have hw:=wrap_succ (j:=j) (by omega)
     have hstep:sortF ks ((l.map fun r=>(r,g r)).take (j + 1))=insF ks (sortF ks ((l.map fun r=>(r,g r)).take j)) (x,g x):=by
      rw [← List.map_take,ht,List.map_append,List.map_cons,List.map_nil,sortF_snoc,List.map_take]
     have hmem:∀ p,p ∈ sortF ks ((l.map fun r=>(r,g r)).take j) → p.2.length=ks.length:=fun p hp=>by
      rw [sortF_mem] at hp
      obtain ⟨r,_,rfl⟩:=List.mem_map.1 (List.mem_of_mem_take hp)
      exact hg r
     rw [hstep] at hlj1
     have hallr:∀ l:List (List Val),(l.map rcell).all (fun y=>y.length == 1)=true:=fun l=>List.all_eq_true.2 fun y hy=>by
      obtain ⟨z,_,rfl⟩:=List.mem_map.1 hy
      rfl
     generalize sortF ks ((l.map fun r=>(r,g r)).take j)=S at hlj hlj1 hstep hmem ⊢
     simp only [go_sem,hlt,hx,hlj,Nat.zero_add,List.length_map,go_sem_proc]
     refine Lp.at TT 4000 2 (Nat.le_of_ble_eq_true rfl) [false,false,false,false,false,false,false,false,false,false,false,false,false,false,false,true,false,false,false,false,false,false,false,false,false,false,false,false,false,false,false,false,false,false,false,false,false,false,false,false,false,false,false,false,false,false,true,true,true,true,true,true,true,true,true,true,true,true,true,true,true,true,true,true] (fun k:Nat=>k) (fun k=>k ≤ j ∧ posF ks (snds S) (g x) j=posF ks (snds S) (g x) k) (fun k=>[(15,cI k)]) (fun _=>[]) (j) (⟨Nat.le_refl _,rfl⟩) ?_ ?_
     ·simp only [go_sem,go_sem_proc]
      first | done | rfl
     ·rintro k ⟨k1,k2⟩
      rcases Nat.eq_zero_or_pos k with hk0 | hk0
      ·have g0:((0:Int) < (k:Int))=False:=by simp [hk0]
       have hpos:posF ks (snds S) (g x) j=k:=by rw [k2,hk0];rfl
       simp only [go_sem,g0,go_sem_proc]
       refine Dr.of TT (by kernel_rfl) [] trivial ?_
       simp only [go_sem,g0,go_sem_proc]
       refine DEnd.of TT 4000 (memOK_of2 (by kernel_rfl)) ?_
       simp only [go_sem,go_sem_proc]
       have hmin:min (k) j=(k):=Nat.min_eq_left k1
       have s1:(k) * 24 ≤ 140737488355328:=by omega
       have s2:((k) + 1) * 24 ≤ 140737488355328:=by omega
       have s3:((k) + 1 + (j - (k))) * 24 ≤ 140737488355328:=by omega
       have hkj:(k) + (j - (k))=j:=by omega
       have hdk:List.take (j - (k)) (List.drop (k) S)=List.drop (k) S:=List.take_of_length_le (by rw [List.length_drop];omega)
       refine Dr.of TT (by kernel_rfl) [] trivial ?_
       simp only [go_sem,hlj,Nat.zero_add,Nat.sub_zero,List.length_map,k1,← List.map_take,← List.map_drop,hallr,List.all_append,List.all_cons,List.all_nil,List.length_append,List.length_take,List.length_drop,hmin,s1,s2,s3,hkj,hdk,Nat.le_refl,go_sem_proc]
       refine DEnd.of TT 4000 (memOK_of2 (by kernel_rfl)) ?_
       simp only [go_sem,go_sem_proc]
       refine Dr.of TT (by kernel_rfl) [] trivial ?_
       simp only [go_sem,hlt,hx,hlj,Nat.zero_add,Nat.sub_zero,List.length_map,k1,← List.map_take,← List.map_drop,hallr,List.all_append,List.all_cons,List.all_nil,List.length_append,List.length_take,List.length_drop,hmin,s1,s2,s3,hkj,hdk,Nat.le_refl,go_sem_proc]
       refine DEnd.of TT 4000 (memOK_of2 (by kernel_rfl)) ?_
       simp only [go_sem,hw,go_sem_proc]
       have hin:insF ks S (x,g x)=S.take (k) ++ [(x,g x)] ++ S.drop (k):=by unfold insF;rw [hlj,hpos]
       have hkj1:(k) + 1 + (j - (k))=j + 1:=by omega
       rw [← List.map_take] at hstep
       refine ⟨j + 1,[12,26],by omega,by omega,rfl,⟨Fit1.of_eq (congrArg (AV.sl 0 0) hkj1),Fit1.of_eq (congrArg (AV.sl 1 0) hkj1),Fit1.of_eq rfl⟩,?_⟩
       rw [hstep,hin]
       simp only [fsts,snds,List.map_append,List.map_cons,List.map_nil,rcell,rowC]
       rfl
      ·obtain ⟨i,rfl⟩:∃ i,k=i + 1:=⟨k - 1,by omega⟩
       have g0:((0:Int) < ((i + 1:Nat):Int))=True:=by simp
       have hw1:IntKind.wrap .i64 (((i + 1:Nat):Int) - 1)=(i:Int):=by rw [show ((i + 1:Nat):Int) - 1=(i:Int) by omega];exact wrap_id (by omega) (by omega)
       have hij:i < j:=by omega
       obtain ⟨q,hq,hqm,_,_⟩:=getB hlj hij
       have hS2:(snds S).getD i []=q.2:=by rw [List.getD_eq_getElem?_getD,List.getElem?_map,hq];rfl
       rw [posF,hS2] at k2
       simp only [go_sem,g0,go_sem_proc]
       refine Dr.of TT (by kernel_rfl) [(39,[.c (keysC ks),.c (rowC q.2),.c (rowC (g x))],cI (ordF ks q.2 (g x)))] ⟨⟨r11_Order ks q.2 (g x) (hmem q hqm) (hg x) hk,rfl⟩,trivial⟩ ?_
       generalize ordF ks q.2 (g x)=o at k2 ⊢
       simp only [go_sem,g0,hw1,hij,hlt,hx,hq,hlj,keysC,Nat.zero_add,Option.map_some,go_sem_proc]
       refine DEnd.of TT 4000 (memOK_of2 (by kernel_rfl)) ?_
       by_cases ho:0 < o
       ·have ho1:(0 < o)=True:=eq_true ho
        rw [if_pos ho] at k2
        simp only [go_sem,ho1,hw1,go_sem_proc]
        exact ⟨i,by omega,⟨by omega,k2⟩,Fit1.of_eq rfl⟩
       ·have ho1:(0 < o)=False:=eq_false ho
        rw [if_neg ho] at k2
        have hpos:=k2
        simp only [go_sem,ho1,go_sem_proc]
        clear g0 hw1 hS2 k2
        generalize i + 1=k at k1 hpos ⊢
        have hmin:min (k) j=(k):=Nat.min_eq_left k1
        have s1:(k) * 24 ≤ 140737488355328:=by omega
        have s2:((k) + 1) * 24 ≤ 140737488355328:=by omega
        have s3:((k) + 1 + (j - (k))) * 24 ≤ 140737488355328:=by omega
        have hkj:(k) + (j - (k))=j:=by omega
        have hdk:List.take (j - (k)) (List.drop (k) S)=List.drop (k) S:=List.take_of_length_le (by rw [List.length_drop];omega)
        refine Dr.of TT (by kernel_rfl) [] trivial ?_
        simp only [go_sem,hlj,Nat.zero_add,Nat.sub_zero,List.length_map,k1,← List.map_take,← List.map_drop,hallr,List.all_append,List.all_cons,List.all_nil,List.length_append,List.length_take,List.length_drop,hmin,s1,s2,s3,hkj,hdk,Nat.le_refl,go_sem_proc]
        refine DEnd.of TT 4000 (memOK_of2 (by kernel_rfl)) ?_
        simp only [go_sem,go_sem_proc]
        refine Dr.of TT (by kernel_rfl) [] trivial ?_
        simp only [go_sem,hlt,hx,hlj,Nat.zero_add,Nat.sub_zero,List.length_map,k1,← List.map_take,← List.map_drop,hallr,List.all_append,List.all_cons,List.all_nil,List.length_append,List.length_take,List.length_drop,hmin,s1,s2,s3,hkj,hdk,Nat.le_refl,go_sem_proc]
        refine DEnd.of TT 4000 (memOK_of2 (by kernel_rfl)) ?_
        simp only [go_sem,hw,go_sem_proc]
        have hin:insF ks S (x,g x)=S.take (k) ++ [(x,g x)] ++ S.drop (k):=by unfold insF;rw [hlj,hpos]
        have hkj1:(k) + 1 + (j - (k))=j + 1:=by omega
        rw [← List.map_take] at hstep
        refine ⟨j + 1,[12,26],by omega,by omega,rfl,⟨Fit1.of_eq (congrArg (AV.sl 0 0) hkj1),Fit1.of_eq (congrArg (AV.sl 1 0) hkj1),Fit1.of_eq rfl⟩,?_⟩
        rw [hstep,hin]
        simp only [fsts,snds,List.map_append,List.map_cons,List.map_nil,rcell,rowC]
        rfl
    ·have:j=l.length:=by omega
     subst this
     have hk3:List.take l.length (l.map fun r=>(r,g r))=l.map fun r=>(r,g r):=List.take_of_length_le (by simp)
     have hk4:(fsts (sortF ks (l.map fun r=>(r,g r)))).length=l.length:=by rw [List.length_map,sortF_len,List.length_map]
     simp only [go_sem,Nat.lt_irrefl,hk3,← hZ,go_sem_proc]
     rw [← hZ] at hk4
     have hk5:List.take l.length (List.map rcell Z)=List.map rcell Z:=List.take_of_length_le (by rw [List.length_map,hk4];exact Nat.le_refl _)
     simp only [go_sem,hk4,hk5,List.length_map,Nat.zero_add,Nat.le_refl,go_sem_proc]
     first | done | exact Le.refl _
end Go.Ev
end
section
open Go Go.Proofs Go.RowKit
namespace Go.Ev
theorem r11_Sort_err (ks:List Key) (l:List (List Val)) (hl:l.length ≤ 10000) (hk:ks.length ≤ 1000) {f:Int} (hf:f ≠ 0)
  (hP:Good Tryz.prog 38 [.c (rowsC l),.c (.lst 7 false ((ks.map Key.e).map Expr.cs))] [] (.tup [.c (rowsC []),cI f]) []) :
  Good Tryz.prog 16 [.c (rowsC l),.c (keysC ks)] [] (.tup [.c (rowsC []),cI f]) []:=by
 have hf':(f != 0)=true:=by simp [hf]
 refine Good.of_vmQ TT 4000 Tryz.func16 rfl rfl ?_
 unfold Tryz.f16
 simp only [go_sem,keysC,go_sem_proc]
 refine Lp.atP TT 4000 0 (Nat.le_of_ble_eq_true rfl) [false,false,false,false,false,false,true,false,true,false,false,false,false,false,false,false,false,false,true,true,true,true,true,true,true,true,true,true] (fun j:Nat=>ks.length - j) (fun j=>j ≤ ks.length) (fun j=>[(4,.dead),(6,.sl 0 0 j),(18,cI j)]) (fun j=>[.rows 7 52 (((ks.map Key.e).take j).map Expr.cs)]) [1] (0) (Nat.zero_le _) ?_ ?_
 ·simp only [go_sem,go_sem_proc]
  first | done | rfl
 ·rintro j i1
  rcases Nat.lt_or_ge j ks.length with hlt | hge
  ·obtain ⟨x,hx,hm,ht,hd⟩:=getS hlt
   have hw:=wrap_succ (j:=j) (by omega)
   have hmin:min j ks.length=j:=Nat.min_eq_left (by omega)
   have hnext:List.map Expr.cs (List.take j (ks.map Key.e)) ++ [[.str x.e.op,.int .i64 x.e.v.k,.int .i64 x.e.v.i,.str x.e.v.s,.str x.e.table,.str x.e.name,.lst 7 false (x.e.l.map Expr.cs)]]=List.map Expr.cs (List.take (j + 1) (ks.map Key.e)):=by
    rw [← List.map_take,← List.map_take,ht,List.map_append,List.map_append,List.map_cons,List.map_nil,List.map_cons,List.map_nil,Expr.cs_eq]
   have hall:((List.take j (ks.map Key.e)).map Expr.cs).all (fun y=>y.length == 7)=true:=List.all_eq_true.2 fun y hy=>by
    obtain ⟨z,_,rfl⟩:=List.mem_map.1 hy
    rw [Expr.cs_len];rfl
   simp only [go_sem,hlt,hx,go_sem_proc]
   simp only [go_sem,hw,hmin,hall,List.length_map,List.length_take,Nat.zero_add,hnext,go_sem_proc]
   exact ⟨by omega,j + 1,[3],by omega,by omega,rfl,⟨Fit1.of_eq rfl,Fit1.of_eq rfl⟩,rfl⟩
  ·have:j=ks.length:=by omega
   subst this
   have hk1:List.take ks.length (ks.map Key.e)=ks.map Key.e:=List.take_of_length_le (by simp)
   have hk2:List.take ks.length (List.map Expr.cs (ks.map Key.e))=List.map Expr.cs (ks.map Key.e):=List.take_of_length_le (by simp)
   simp only [go_sem,Nat.lt_irrefl,hk1,go_sem_proc]
   refine Cl.pure TT 4000 hP (by simp only [go_sem,hk2,Nat.zero_add,Nat.le_refl,List.length_map,go_sem_proc]) rfl ?_
   simp only [go_sem,rowsC,hf',go_sem_proc]
   first | done | exact Le.refl _
end Go.Ev
end
