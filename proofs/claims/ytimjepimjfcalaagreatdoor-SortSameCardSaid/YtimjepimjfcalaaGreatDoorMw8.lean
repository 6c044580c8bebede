import Derived.Test.YtimjepimjfcalaaGreatDoorMw5
import Derived.Test.YtimjepimjfcalaaGreatDoorMv1
import Derived.Test.YtimjepimjfcalaaGreatDoorMv2
import Derived.Test.YtimjepimjfcalaaGreatDoorMw7
set_option linter.all false
set_option maxRecDepth 100000
set_option maxHeartbeats 8000000
section
open Go Go.Proofs Go.RowKit
namespace Go.Ev
theorem same_no (l:List (List Val)) (ks:List Key) (b f o:Int)
  (heven:Good Tryz.prog 9 [.c (rowsC l),.c (keysC ks)] [] (.tup [.c (rowsC []),cB false]) []) :
  Good Tryz.prog 5 [.c (rowsC l),.c (keysC ks),cI b,cI f,cI o] [] (cB true) []:=by
 refine Good.of_vmQ TT 4000 Tryz.func5 rfl rfl ?_
 unfold Tryz.f5
 simp only [go_sem,go_sem_proc]
 refine Cl.pure TT 4000 live_good rfl rfl ?_
 simp only [go_sem,go_sem_proc]
 refine Cl.pure TT 4000 heven rfl rfl ?_
 simp only [go_sem,go_sem_proc]
 first | done | exact Le.refl _
theorem same_err (l x:List (List Val)) (ks:List Key) (b f o e:Int) (he:e≠0)
  (heven:Good Tryz.prog 9 [.c (rowsC l),.c (keysC ks)] [] (.tup [.c (rowsC x),cB true]) [])
  (h1:Good Tryz.prog 10 [.c (rowsC x),.c (keysC ks),cI b,cI f] [] (.tup [.c (rowsC []),cI 0,cI 0,cI e]) [])
  (h2:Good Tryz.prog 10 [.c (rowsC x),.c (keysC ks),cI o,cI f] [] (.tup [.c (rowsC []),cI 0,cI 0,cI e]) []) :
  Good Tryz.prog 5 [.c (rowsC l),.c (keysC ks),cI b,cI f,cI o] [] (cB true) []:=by
 have hf':(e != 0)=true:=by simp [he]
 refine Good.of_vmQ TT 4000 Tryz.func5 rfl rfl ?_
 unfold Tryz.f5
 simp only [go_sem,go_sem_proc]
 refine Cl.pure TT 4000 live_good rfl rfl ?_
 simp only [go_sem,go_sem_proc]
 refine Cl.pure TT 4000 heven rfl rfl ?_
 simp only [go_sem,go_sem_proc]
 refine Cl.pure TT 4000 h1 rfl rfl ?_
 simp only [go_sem,go_sem_proc]
 refine Cl.pure TT 4000 h2 rfl rfl ?_
 have hw:IntKind.i64.wrap ((0:Int)+0)=0:=by decide
 have hw2:IntKind.i64.wrap 0=0:=by decide
 simp only [go_sem,hf',beq_self_eq_true,rowsC,hw,hw2,go_sem_proc]
 first | done | exact Le.refl _ | trace_state
theorem same_ok (l x:List (List Val)) (ks:List Key) (b f o n1 k1 n2 k2:Int) (g:List Val→List Val) (hx:x.length≤1000) (hg:∀ r,(g r).length=ks.length)
  (heven:Good Tryz.prog 9 [.c (rowsC l),.c (keysC ks)] [] (.tup [.c (rowsC x),cB true]) [])
  (h1:Good Tryz.prog 10 [.c (rowsC x),.c (keysC ks),cI b,cI f] [] (.tup [.c (rowsC (fsts (sortF ks (x.map fun r=>(r,g r))))),cI n1,cI k1,cI 0]) [])
  (h2:Good Tryz.prog 10 [.c (rowsC x),.c (keysC ks),cI o,cI f] [] (.tup [.c (rowsC (fsts (sortF ks (x.map fun r=>(r,g r))))),cI n2,cI k2,cI 0]) [])
  (hS:∀ p:List (List Val),p.length≤10000→(∀ r,r ∈ p→r ∈ x)→Good Tryz.prog 16 [.c (rowsC p),.c (keysC ks)] [] (.tup [.c (rowsC (fsts (sortF ks (p.map fun r=>(r,g r))))),cI 0]) []) :
  Good Tryz.prog 5 [.c (rowsC l),.c (keysC ks),cI b,cI f,cI o] [] (cB true) []:=by
 have O:=isOrd ks
 have hAw:∀ q,q ∈ x.map (fun r=>(r,g r))→WK ks q:=fun q hq=>by
  obtain ⟨r,_,rfl⟩:=List.mem_map.1 hq
  exact hg r
 have hbag:(fsts (sortF ks (x.map fun r=>(r,g r)))).Perm x:=by
  have:=(sortF_perm ks (x.map fun r=>(r,g r))).map Prod.fst
  rwa [List.map_map,show (Prod.fst ∘ fun r=>(r,g r))=id from rfl,List.map_id] at this
 have hlen:(sortF ks (x.map fun r=>(r,g r))).length=x.length:=by rw [sortF_len,List.length_map]
 have hsrt:=sortF_srt ks _ O _ hAw
 have hmem:∀ q,q ∈ sortF ks (x.map fun r=>(r,g r))→q.1 ∈ x∧q=(q.1,g q.1):=fun q hq=>by
  rw [sortF_mem] at hq
  obtain ⟨r,hr,rfl⟩:=List.mem_map.1 hq
  exact ⟨hr,rfl⟩
 have hb:=ref_SameBag _ _ hbag (by omega)
 generalize sortF ks (x.map fun r=>(r,g r))=Y at *
 have hs:=sameRows_self (fsts Y) (by rw [List.length_map];omega)
 have htwo:∀ (i:Nat) (p q:Keyed),Y[i]?=some p→Y[i+1]?=some q→Good Tryz.prog 16 [.c (rowsC [p.1,q.1]),.c (keysC ks)] [] (.tup [.c (rowsC [p.1,q.1]),cI 0]) []:=fun i p q hp hq=>by
  obtain ⟨p1,p2⟩:=hmem p (List.mem_of_getElem? hp)
  obtain ⟨q1,q2⟩:=hmem q (List.mem_of_getElem? hq)
  have hle:=srt_le O (fun z hz=>by rw [(hmem z hz).2];exact hg _) hsrt (Nat.le_succ i) hp hq
  have:=hS [p.1,q.1] (by simp) (fun r hr=>by
   rcases List.mem_cons.1 hr with h | h
   ·rw [h];exact p1
   ·rw [List.mem_singleton.1 h];exact q1)
  rw [List.map_cons,List.map_cons,List.map_nil,← p2,← q2,sortF_id O (A:=[p,q]) (fun z hz=>by
   rcases List.mem_cons.1 hz with h | h
   ·rw [h,p2];exact hg _
   ·rw [List.mem_singleton.1 h,q2];exact hg _) (List.pairwise_cons.2 ⟨fun z hz=>by rw [List.mem_singleton.1 hz];exact hle,List.pairwise_singleton _ _⟩)] at this
  exact this
 clear hbag hsrt hmem
 refine Good.of_vmQ TT 4000 Tryz.func5 rfl rfl ?_
 unfold Tryz.f5
 simp only [go_sem,go_sem_proc]
 refine Cl.pure TT 4000 live_good rfl rfl ?_
 simp only [go_sem,go_sem_proc]
 refine Cl.pure TT 4000 heven rfl rfl ?_
 simp only [go_sem,go_sem_proc]
 refine Cl.pure TT 4000 h1 rfl rfl ?_
 simp only [go_sem,go_sem_proc]
 refine Cl.pure TT 4000 h2 rfl rfl ?_
 simp only [go_sem,go_sem_proc]
 refine Cl.pure TT 4000 hs rfl rfl ?_
 simp only [go_sem,go_sem_proc]
 refine Cl.pure TT 4000 hb rfl rfl ?_
 simp only [go_sem,rowsC,List.length_map,go_sem_proc]
 refine Lp.at TT 4000 0 (Nat.le_of_ble_eq_true rfl) [false,false,false,false,false,false,false,false,false,false,true,false,false,false,false,false,false,false,false,false,false,false,true,true,true,false,false,false,false,false,false,false,false,false,false,false,false,false,false,false,false,false,false,false,false,false,false,false,false,false,false,false,false,false,false,false,false,false,false,false,false,false,false,false,false,false,false,false,false,false,false,false,false,false,false,false,false,false,false,false,false,false,false,false,false,false,false,false,false,false,true,true,true,true,true,true,true,true,true,true,true,true,true,true,true,true,true,true,true,true,true,true,true,true,true,true,true,true,true,true,true,true,true,true,true] (fun j:Nat=>Y.length-j) (fun j=>j≤Y.length) (fun j=>[(90,cI j)]) (fun _=>[]) (0) (Nat.zero_le _) ?_ ?_
 ·simp only [go_sem,go_sem_proc]
  first | done | rfl
 ·rintro j i1
  rcases Nat.lt_or_ge j Y.length with hlt | hge
  ·obtain ⟨q,hq,hqm,_,_⟩:=getS hlt
   have hw:=wrap_succ (j:=j) (by omega)
   rcases Nat.eq_zero_or_pos j with hj0 | hj0
   ·have hj:((j:Int) == 0)=true:=by simp [hj0]
    simp only [go_sem,hlt,hj,hw,go_sem_proc]
    exact ⟨j+1,by omega,by omega,Fit1.of_eq rfl⟩
   ·obtain ⟨i,rfl⟩:∃ i,j=i+1:=⟨j-1,by omega⟩
    have hj:(((i+1:Nat):Int) == 0)=false:=by simp;omega
    have hw1:IntKind.i64.wrap (((i+1:Nat):Int)-1)=(i:Int):=by rw [wrap_id (by omega) (by omega)];omega
    obtain ⟨p,hp,_,_,_⟩:=getS (l:=Y) (j:=i) (by omega)
    have hil:i<Y.length:=by omega
    have ht:=htwo i p q hp hq
    have hself:=sameRow_self p.1
    simp only [go_sem,hlt,hj,go_sem_proc]
    refine Dr.ofC TT (by kernel_rfl) [(16,[.c (rowsC [p.1,q.1]),.c (keysC ks)],.tup [.c (rowsC [p.1,q.1]),cI 0])] ⟨⟨ht,rfl⟩,trivial⟩ ?_
    simp only [go_sem,rowsC,List.length_map,hw1,hp,hq,hil,hlt,Option.map_some,List.map_cons,List.map_nil,go_sem_proc]
    refine DEnd.of TT 4000 (memOK_of2 (by kernel_rfl)) ?_
    simp only [go_sem,go_sem_proc]
    refine Dr.of TT (by kernel_rfl) [(17,[.c (rowC p.1),.c (rowC p.1)],cB true)] ⟨⟨hself,rfl⟩,trivial⟩ ?_
    simp only [go_sem,rowsC,List.length_map,hw1,hp,hil,Option.map_some,go_sem_proc]
    refine ⟨by decide,DEnd.of TT 4000 (memOK_of2 (by kernel_rfl)) ?_⟩
    simp only [go_sem,hw,go_sem_proc]
    exact ⟨i+1+1,by omega,by omega,Fit1.of_eq rfl⟩
  ·have hjl:j=Y.length:=by omega
   subst hjl
   simp only [go_sem,Nat.lt_irrefl,List.length_map,go_sem_proc]
   first | done | exact Le.refl _ | trace_state
theorem sortSame_good (l:List (List Val)) (ks:List Key) (b f o:Int) (hb:I64 b) (hf:I64 f) (ho:I64 o) (hl:∀ r,r ∈ l→∀ v,v ∈ r→I64 v.i∧v.s.size≤281474976710656) (hk:∀ k,k ∈ ks→Expr.All (fun x=>I64 x.v.i) k.e) :
  Good Tryz.prog 5 [.c (rowsC l),.c (keysC ks),cI b,cI f,cI o] [] (cB true) []:=by
 have he:=even_good l ks fun r hr v hv=>(hl r hr v hv).2
 cases hB:evenB l ks with
 | true =>
  rw [hB,if_pos rfl] at he
  have ok:=even_ok hB (fun r hr v hv=>(hl r hr v hv).1) hk
  cases even_say ok with
  | err e he2 a s=>exact same_err l _ ks b f o e he2 he (a b f) (a o f)
  | ok g hg a s=>exact same_ok l _ ks b f o _ _ _ _ g (by have:=ok.len;omega) hg he (a b f hb hf) (a o f ho hf) s
 | false =>
  rw [hB,if_neg (by simp)] at he
  exact same_no l ks b f o he
end Go.Ev
end
