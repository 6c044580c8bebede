import Derived.Test.YtifdakibkadfiaaGreatDoorMs6
import Derived.Test.YtifdakibkadfiaaGreatDoorMs1
import Derived.Test.YtifdakibkadfiaaGreatDoorMe2
set_option linter.all false
set_option maxRecDepth 100000
set_option maxHeartbeats 8000000
section
open Go Go.Proofs Go.RowKit
namespace Go.Ev
theorem zij (es:List Expr) (r:List Val) (hb:es.length ≤ 1000) (g:Expr → Val) (hv:∀ x,x ∈ es → Vs r x (g x) 0) :
  Good Tryz.prog 53 [.c (.lst 7 false (es.map Expr.cs)),.c (qk r)] [] (.tup [.c (qk (es.map g)),cI 0]) []:=by
 refine Good.zg TT 4000 Tryz.func53 rfl rfl ?_
 unfold Tryz.f53
 simp only [go_sem,go_sem_proc]
 refine Lp.atP TT 4000 0 (Nat.le_of_ble_eq_true rfl) [false,false,false,false,true,true,true,false,true,true,true,false,false,true,true,true,true,true,true,true,true,true,true,true,true,true,true,true,true,true,true] (fun j:Nat=>es.length - j) (fun j=>j ≤ es.length) (fun j=>[(4,.dead),(6,.sl 0 0 j),(13,cI j)]) (fun j=>[.rows 3 26 (((es.map g).take j).map Val.cs)]) [1] (0) (Nat.zero_le _) ?_ ?_
 ·simp only [go_sem,go_sem_proc]
  first | done | rfl
 ·rintro j i1
  rcases Nat.lt_or_ge j es.length with hlt | hge
  ·obtain ⟨x,hx,hm,ht,hd⟩:=vj hlt
   have hw:=zh (j:=j) (by omega)
   have hvx:=hv x hm
   have hmin:min j es.length=j:=Nat.min_eq_left (by omega)
   have hnext:List.map Val.cs (List.take j (es.map g)) ++ [[.int .i64 (g x).k,.int .i64 (g x).i,.str (g x).s]]=List.map Val.cs (List.take (j + 1) (es.map g)):=by
    rw [← List.map_take,← List.map_take,ht,List.map_append,List.map_append];rfl
   have hall:((List.take j (es.map g)).map Val.cs).all (fun y=>y.length == 3)=true:=List.all_eq_true.2 fun y hy=>by
    obtain ⟨z,_,rfl⟩:=List.mem_map.1 hy
    rfl
   simp only [go_sem,hlt,hx,go_sem_proc]
   refine Cl.pure TT 4000 hvx rfl rfl ?_
   simp only [go_sem,hw,hmin,hall,List.length_map,List.length_take,Nat.zero_add,hnext,go_sem_proc]
   exact ⟨by omega,j + 1,[4],by omega,by omega,rfl,⟨zq.of_eq rfl,zq.of_eq rfl⟩,rfl⟩
  ·have:j=es.length:=by omega
   subst this
   have hk:List.take es.length (es.map g)=es.map g:=List.take_of_length_le (by simp)
   have hk2:List.take es.length (List.map Val.cs (es.map g))=List.map Val.cs (es.map g):=List.take_of_length_le (by simp)
   simp only [go_sem,Nat.lt_irrefl,hk,hk2,qk,List.length_map,Nat.zero_add,Nat.le_refl,go_sem_proc]
   first | done | exact Le.refl _
theorem zhl (es:List Expr) (r:List Val) (hb:es.length ≤ 1000) (g:Expr → Val) (k:Nat) (hv:∀ (j:Nat) x,j < k → es[j]?=some x → Vs r x (g x) 0) {y:Expr} {w:Val} {f:Int} (hy:es[k]?=some y) (hf:f ≠ 0) (he:Vs r y w f) :
  Good Tryz.prog 53 [.c (.lst 7 false (es.map Expr.cs)),.c (qk r)] [] (.tup [.c (qk []),cI f]) []:=by
 have hf':(f != 0)=true:=by simp [hf]
 have hkl:=(List.getElem?_eq_some_iff.1 hy).1
 refine Good.zg TT 4000 Tryz.func53 rfl rfl ?_
 unfold Tryz.f53
 simp only [go_sem,go_sem_proc]
 refine Lp.atP TT 4000 0 (Nat.le_of_ble_eq_true rfl) [false,false,false,false,true,true,true,false,true,true,true,false,false,true,true,true,true,true,true,true,true,true,true,true,true,true,true,true,true,true,true] (fun j:Nat=>es.length - j) (fun j=>j ≤ k) (fun j=>[(4,.dead),(6,.sl 0 0 j),(13,cI j)]) (fun j=>[.rows 3 26 (((es.map g).take j).map Val.cs)]) [1] (0) (Nat.zero_le _) ?_ ?_
 ·simp only [go_sem,go_sem_proc]
  first | done | rfl
 ·rintro j i1
  have hlt:j < es.length:=by omega
  rcases Nat.lt_or_ge j k with hj | hj
  ·obtain ⟨x,hx,hm,ht,hd⟩:=vj hlt
   have hw:=zh (j:=j) (by omega)
   have hvx:=hv j x hj hx
   have hmin:min j es.length=j:=Nat.min_eq_left (by omega)
   have hnext:List.map Val.cs (List.take j (es.map g)) ++ [[.int .i64 (g x).k,.int .i64 (g x).i,.str (g x).s]]=List.map Val.cs (List.take (j + 1) (es.map g)):=by
    rw [← List.map_take,← List.map_take,ht,List.map_append,List.map_append];rfl
   have hall:((List.take j (es.map g)).map Val.cs).all (fun y=>y.length == 3)=true:=List.all_eq_true.2 fun y hy=>by
    obtain ⟨z,_,rfl⟩:=List.mem_map.1 hy
    rfl
   simp only [go_sem,hlt,hx,go_sem_proc]
   refine Cl.pure TT 4000 hvx rfl rfl ?_
   simp only [go_sem,hw,hmin,hall,List.length_map,List.length_take,Nat.zero_add,hnext,go_sem_proc]
   exact ⟨by omega,j + 1,[4],by omega,by omega,rfl,⟨zq.of_eq rfl,zq.of_eq rfl⟩,rfl⟩
  ·have:j=k:=by omega
   subst this
   simp only [go_sem,hlt,hy,go_sem_proc]
   refine Cl.pure TT 4000 he rfl rfl ?_
   simp only [go_sem,hf',qk,go_sem_proc]
   first | done | exact Le.refl _
theorem zhm (l:List (List Val)) (es:List Expr) (hl:l.length ≤ 1000000) (g:List Val → List Val)
  (hv:∀ r,r ∈ l → Good Tryz.prog 53 [.c (.lst 7 false (es.map Expr.cs)),.c (qk r)] [] (.tup [.c (qk (g r)),cI 0]) []) :
  Good Tryz.prog 21 [.c (qD l),.c (.lst 7 false (es.map Expr.cs))] [] (.tup [.c (qD (l.map g)),cI 0]) []:=by
 refine Good.zg TT 4000 Tryz.func21 rfl rfl ?_
 unfold Tryz.f21
 simp only [go_sem,qD,go_sem_proc]
 refine Lp.atP TT 4000 0 (Nat.le_of_ble_eq_true rfl) [false,false,false,false,true,true,true,false,true,true,true,false,false,true,true,true,true,true,true,true,true,true,true,true,true,true,true,true,true,true,true] (fun j:Nat=>l.length - j) (fun j=>j ≤ l.length) (fun j=>[(4,.dead),(6,.sl 0 0 j),(13,cI j)]) (fun j=>[.rows 1 47 ((l.take j).map fun r=>[CV.lst 3 false ((g r).map Val.cs)])]) [1] (0) (Nat.zero_le _) ?_ ?_
 ·simp only [go_sem,go_sem_proc]
  first | done | rfl
 ·rintro j i1
  rcases Nat.lt_or_ge j l.length with hlt | hge
  ·obtain ⟨x,hx,hm,ht,hd⟩:=vj hlt
   have hw:=zh (j:=j) (by omega)
   have hvx:=hv x hm
   have hmin:min j l.length=j:=Nat.min_eq_left (by omega)
   have hall:((l.take j).map fun r=>[CV.lst 3 false ((g r).map Val.cs)]).all (fun y=>y.length == 1)=true:=List.all_eq_true.2 fun y hy=>by
    obtain ⟨z,_,rfl⟩:=List.mem_map.1 hy
    rfl
   have hnext:List.map (fun r=>[CV.lst 3 false ((g r).map Val.cs)]) (l.take j) ++ [[CV.lst 3 false ((g x).map Val.cs)]]=List.map (fun r=>[CV.lst 3 false ((g r).map Val.cs)]) (l.take (j + 1)):=by
    rw [ht,List.map_append];rfl
   simp only [go_sem,hlt,hx,go_sem_proc]
   refine Cl.pure TT 4000 hvx rfl rfl ?_
   simp only [go_sem,hw,hmin,hall,List.length_map,List.length_take,Nat.zero_add,hnext,go_sem_proc]
   exact ⟨by omega,j + 1,[2],by omega,by omega,rfl,⟨zq.of_eq rfl,zq.of_eq rfl⟩,rfl⟩
  ·have:j=l.length:=by omega
   subst this
   have hk:∀ f:List Val → List CV,List.take l.length (l.map f)=l.map f:=fun f=>List.take_of_length_le (by simp)
   simp only [go_sem,Nat.lt_irrefl,hk,List.map_take,List.length_map,Nat.zero_add,Nat.le_refl,List.map_map,Function.comp_def,go_sem_proc]
   first | done | exact Le.refl _
theorem zf3 (l:List (List Val)) (es:List Expr) (hl:l.length ≤ 1000000) (g:List Val → List Val)
  (k:Nat) (hv:∀ (j:Nat) r,j < k → l[j]?=some r → Good Tryz.prog 53 [.c (.lst 7 false (es.map Expr.cs)),.c (qk r)] [] (.tup [.c (qk (g r)),cI 0]) [])
  {y:List Val} {f:Int} (hy:l[k]?=some y) (hf:f ≠ 0) (he:Good Tryz.prog 53 [.c (.lst 7 false (es.map Expr.cs)),.c (qk y)] [] (.tup [.c (qk []),cI f]) []) :
  Good Tryz.prog 21 [.c (qD l),.c (.lst 7 false (es.map Expr.cs))] [] (.tup [.c (qD []),cI f]) []:=by
 have hf':(f != 0)=true:=by simp [hf]
 have hkl:=(List.getElem?_eq_some_iff.1 hy).1
 refine Good.zg TT 4000 Tryz.func21 rfl rfl ?_
 unfold Tryz.f21
 simp only [go_sem,qD,go_sem_proc]
 refine Lp.atP TT 4000 0 (Nat.le_of_ble_eq_true rfl) [false,false,false,false,true,true,true,false,true,true,true,false,false,true,true,true,true,true,true,true,true,true,true,true,true,true,true,true,true,true,true] (fun j:Nat=>l.length - j) (fun j=>j ≤ k) (fun j=>[(4,.dead),(6,.sl 0 0 j),(13,cI j)]) (fun j=>[.rows 1 47 ((l.take j).map fun r=>[CV.lst 3 false ((g r).map Val.cs)])]) [1] (0) (Nat.zero_le _) ?_ ?_
 ·simp only [go_sem,go_sem_proc]
  first | done | rfl
 ·rintro j i1
  have hlt:j < l.length:=by omega
  rcases Nat.lt_or_ge j k with hj | hj
  ·obtain ⟨x,hx,hm,ht,hd⟩:=vj hlt
   have hw:=zh (j:=j) (by omega)
   have hvx:=hv j x hj hx
   have hmin:min j l.length=j:=Nat.min_eq_left (by omega)
   have hall:((l.take j).map fun r=>[CV.lst 3 false ((g r).map Val.cs)]).all (fun y=>y.length == 1)=true:=List.all_eq_true.2 fun y hy=>by
    obtain ⟨z,_,rfl⟩:=List.mem_map.1 hy
    rfl
   have hnext:List.map (fun r=>[CV.lst 3 false ((g r).map Val.cs)]) (l.take j) ++ [[CV.lst 3 false ((g x).map Val.cs)]]=List.map (fun r=>[CV.lst 3 false ((g r).map Val.cs)]) (l.take (j + 1)):=by
    rw [ht,List.map_append];rfl
   simp only [go_sem,hlt,hx,go_sem_proc]
   refine Cl.pure TT 4000 hvx rfl rfl ?_
   simp only [go_sem,hw,hmin,hall,List.length_map,List.length_take,Nat.zero_add,hnext,go_sem_proc]
   exact ⟨by omega,j + 1,[2],by omega,by omega,rfl,⟨zq.of_eq rfl,zq.of_eq rfl⟩,rfl⟩
  ·have:j=k:=by omega
   subst this
   simp only [go_sem,hlt,hy,go_sem_proc]
   refine Cl.pure TT 4000 he rfl rfl ?_
   simp only [go_sem,hf',go_sem_proc]
   first | done | exact Le.refl _
end Go.Ev
end
section
open Go Go.Proofs Go.RowKit
namespace Go.Ev
structure Key where
 e:Expr
 desc:Bool
@[go_sem] def Key.cs (k:Key):List CV:=[.str k.e.op,.int .i64 k.e.v.k,.int .i64 k.e.v.i,.str k.e.v.s,.str k.e.table,.str k.e.name,.lst 7 false (k.e.l.map Expr.cs),.bool k.desc]
def zmz (l:List Key):CV:=.lst 8 false (l.map Key.cs)
end Go.Ev
end
section
open Go Go.Proofs Go.RowKit
namespace Go.Ev
@[go_sem] def qH (r:List Val):List CV:=[qk r]
abbrev znn (s:List (List Val × List Val)):List (List Val):=s.map Prod.fst
abbrev zno (s:List (List Val × List Val)):List (List Val):=s.map Prod.snd
end Go.Ev
end
