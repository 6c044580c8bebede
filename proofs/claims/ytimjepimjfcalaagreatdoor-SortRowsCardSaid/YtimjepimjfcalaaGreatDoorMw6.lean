import Derived.Test.YtimjepimjfcalaaGreatDoorMw5
import Derived.Test.YtimjepimjfcalaaGreatDoorMv1
import Derived.Test.YtimjepimjfcalaaGreatDoorMv2
set_option linter.all false
set_option maxRecDepth 100000
set_option maxHeartbeats 8000000
section
open Go Go.Proofs Go.RowKit
namespace Go.Ev
theorem cd_pred {n d:Int} (hn:1≤n) (hd:1≤d):cd n d=(n-1).tdiv d+1:=by
 unfold cd
 rw [Int.tdiv_eq_ediv_of_nonneg (by omega),show n+d-1=n-1+d*1 by omega,Int.add_mul_ediv_left _ _ (by omega)]
theorem rpasses_good (n:Nat) (b f:Int) (hn:n≤1000000):Good Tryz.prog 14 [cI n,cI b,cI f] [] (.tup [cI (cd n (max b 1)),cI (np (max f 2) (cd n (max b 1)))]) []:=by
 have k1:0≤cd n (max b 1):=cd_nonneg (by omega) (by omega)
 have k2:cd n (max b 1)≤n:=cd_le (by omega) (by omega)
 have hf:2≤max f 2:=by omega
 have hb:1≤max b 1:=by omega
 refine Good.of_vmQ TT 4000 Tryz.func14 rfl rfl ?_
 unfold Tryz.f14
 simp only [go_sem,go_sem_proc]
 generalize max f 2=g at *
 generalize max b 1=d at *
 have e1:0<n→IntKind.i64.wrap (IntKind.i64.wrap ((IntKind.i64.wrap ((n:Int)-1)).tdiv d)+1)=cd n d:=fun h=>by
  rw [wrap_id (a:=(n:Int)-1) (by omega) (by omega)]
  have h2:0≤((n:Int)-1).tdiv d:=Int.tdiv_nonneg (by omega) (by omega)
  have h3:=cd_pred (n:=n) (d:=d) (by omega) hb
  rw [wrap_id (a:=((n:Int)-1).tdiv d) (by omega) (by omega),wrap_id (by omega) (by omega)];exact h3.symm
 have hd0:(d != 0)=true:=by simp;omega
 have hd1:(d=0)=False:=by simp;omega
 have hg1:(g=0)=False:=by simp;omega
 obtain ⟨r,hr⟩:∃ r,r=cd n d:=⟨_,rfl⟩
 rw [← hr] at k1 k2 e1 ⊢
 rcases Nat.eq_zero_or_pos n with h0 | h0
 case' inl =>
  have g0:((0:Int)<(n:Int))=False:=by simp [h0]
  have hr0:r=0:=by rw [hr,h0];exact Int.ediv_eq_zero_of_lt (by omega) (by omega)
  simp only [go_sem,g0,go_sem_proc]
 case' inr =>
  have g0:((0:Int)<(n:Int))=True:=by simp;omega
  have hr0:r=r:=rfl
  simp only [go_sem,g0,e1 h0,hd1,go_sem_proc]
 all_goals
  clear e1
  refine Lp.at TT 4000 0 (Nat.le_of_ble_eq_true rfl) [false,false,false,false,false,false,false,false,false,true,true,false,false,false,false,false,false,false,false,false,false,false,false,true,true,true,true,true,true,true,true,true] (fun a:Int × Int=>a.1.toNat) (fun a=>0≤a.1∧0≤a.2∧a.1≤n∧a.2+np g a.1=np g r) (fun a=>[(9,cI a.2),(10,cI a.1)]) (fun _=>[]) ((r,0)) (⟨k1,Int.le_refl _,k2,by simp⟩) ?_ ?_
  ·simp only [go_sem,go_sem_proc]
   first | done | exact Fit1.of_eq (by rw [hr0])
  ·rintro ⟨l,p⟩ ⟨i1,i2,i3,i4⟩
   have i5:=np_nonneg g l
   have i6:=np_le hf _ r (Nat.le_refl _) (by omega)
   simp only at i1 i2 i3 i4
   rcases Int.lt_or_le 1 l with hl | hl
   ·have g1:((1:Int)<l)=True:=eq_true hl
    have i7:=cd_lt (n:=l) (d:=g) (by omega) hf
    have i8:=cd_nonneg (n:=l) (d:=g) (by omega) (by omega)
    rw [np_step hf (by omega)] at i4 i5
    have i9:=np_nonneg g (cd l g)
    have j1:=cd_pred (n:=l) (d:=g) (by omega) (by omega)
    have j2:0≤(l-1).tdiv g:=Int.tdiv_nonneg (by omega) (by omega)
    have w1:IntKind.i64.wrap (IntKind.i64.wrap ((IntKind.i64.wrap (l-1)).tdiv g)+1)=cd l g:=by
     rw [wrap_id (a:=l-1) (by omega) (by omega),wrap_id (a:=(l-1).tdiv g) (by omega) (by omega),wrap_id (a:=(l-1).tdiv g+1) (by omega) (by omega),← j1]
    have w2:IntKind.i64.wrap (p+1)=p+1:=wrap_id (by omega) (by omega)
    simp only [go_sem,g1,hg1,w1,w2,go_sem_proc]
    exact ⟨(cd l g,p+1),by simp only;omega,⟨i8,by simp only;omega,by simp only;omega,by simp only;omega⟩,Fit1.of_eq rfl,Fit1.of_eq rfl⟩
   ·have g1:((1:Int)<l)=False:=eq_false (by omega)
    rw [np_stop (by omega),Int.add_zero] at i4
    simp only [go_sem,g1,i4,go_sem_proc]
    first | done | exact Le.of_eq (by rw [hr0]) | trace_state
theorem r16_Rows_ok (ks:List Key) (l Z:List (List Val)) (hl:l.length≤1000) (b f:Int)
  (hs:Good Tryz.prog 16 [.c (rowsC l),.c (keysC ks)] [] (.tup [.c (rowsC Z),cI 0]) []) :
  Good Tryz.prog 11 [.c (rowsC l),.c (keysC ks),cI b,cI f] [] (.tup [.c (rowsC Z),cI (cd l.length (max b 1)),cI (np (max f 2) (cd l.length (max b 1))),cI 0]) []:=by
 have hp:=rpasses_good l.length b f (by omega)
 generalize cd l.length (max b 1)=u at *
 generalize np (max f 2) u=w at *
 refine Good.of_vmQ TT 4000 Tryz.func11 rfl rfl ?_
 unfold Tryz.f11
 simp only [go_sem,go_sem_proc]
 refine Cl.pure TT 4000 hs rfl rfl ?_
 simp only [go_sem,rowsC,List.length_map,go_sem_proc]
 refine Cl.pure TT 4000 hp rfl rfl ?_
 simp only [go_sem,go_sem_proc]
 first | done | exact Le.refl _
theorem r16_Rows_err (ks:List Key) (l:List (List Val)) (b f e:Int) (he:e≠0)
  (hs:Good Tryz.prog 16 [.c (rowsC l),.c (keysC ks)] [] (.tup [.c (rowsC []),cI e]) []) :
  Good Tryz.prog 11 [.c (rowsC l),.c (keysC ks),cI b,cI f] [] (.tup [.c (rowsC []),cI 0,cI 0,cI e]) []:=by
 have hf':(e != 0)=true:=by simp [he]
 refine Good.of_vmQ TT 4000 Tryz.func11 rfl rfl ?_
 unfold Tryz.f11
 simp only [go_sem,go_sem_proc]
 refine Cl.pure TT 4000 hs rfl rfl ?_
 simp only [go_sem,hf',rowsC,go_sem_proc]
 first | done | exact Le.refl _
end Go.Ev
end
section
open Go Go.Proofs Go.RowKit
namespace Go.Ev
theorem rows_law (l x Z:List (List Val)) (ks:List Key) (b f n k e:Int) (hZ:Z.length≤100000)
  (heven:Good Tryz.prog 9 [.c (rowsC l),.c (keysC ks)] [] (.tup [.c (rowsC x),cB true]) [])
  (h1:Good Tryz.prog 10 [.c (rowsC x),.c (keysC ks),cI b,cI f] [] (.tup [.c (rowsC Z),cI n,cI k,cI e]) [])
  (h2:Good Tryz.prog 11 [.c (rowsC x),.c (keysC ks),cI b,cI f] [] (.tup [.c (rowsC Z),cI n,cI k,cI e]) []) :
  Good Tryz.prog 3 [.c (rowsC l),.c (keysC ks),cI b,cI f] [] (cB true) []:=by
 have h3:=sameRows_self Z hZ
 refine Good.of_vmQ TT 4000 Tryz.func3 rfl rfl ?_
 unfold Tryz.f3
 simp only [go_sem,go_sem_proc]
 refine Cl.pure TT 4000 live_good rfl rfl ?_
 simp only [go_sem,go_sem_proc]
 refine Cl.pure TT 4000 heven rfl rfl ?_
 simp only [go_sem,go_sem_proc]
 refine Cl.pure TT 4000 h1 rfl rfl ?_
 simp only [go_sem,go_sem_proc]
 refine Cl.pure TT 4000 h2 rfl rfl ?_
 simp only [go_sem,go_sem_proc]
 refine Cl.pure TT 4000 h3 rfl rfl ?_
 simp only [go_sem,beq_self_eq_true,go_sem_proc]
 first | done | exact Le.refl _
theorem rows_no (l:List (List Val)) (ks:List Key) (b f:Int)
  (heven:Good Tryz.prog 9 [.c (rowsC l),.c (keysC ks)] [] (.tup [.c (rowsC []),cB false]) []) :
  Good Tryz.prog 3 [.c (rowsC l),.c (keysC ks),cI b,cI f] [] (cB true) []:=by
 refine Good.of_vmQ TT 4000 Tryz.func3 rfl rfl ?_
 unfold Tryz.f3
 simp only [go_sem,go_sem_proc]
 refine Cl.pure TT 4000 live_good rfl rfl ?_
 simp only [go_sem,go_sem_proc]
 refine Cl.pure TT 4000 heven rfl rfl ?_
 simp only [go_sem,go_sem_proc]
 first | done | exact Le.refl _
theorem sortRows_good (l:List (List Val)) (ks:List Key) (b f:Int) (hb:I64 b) (hf:I64 f) (hl:∀ r,r ∈ l→∀ v,v ∈ r→I64 v.i∧v.s.size≤281474976710656) (hk:∀ k,k ∈ ks→Expr.All (fun x=>I64 x.v.i) k.e) :
  Good Tryz.prog 3 [.c (rowsC l),.c (keysC ks),cI b,cI f] [] (cB true) []:=by
 have he:=even_good l ks fun r hr v hv=>(hl r hr v hv).2
 cases hB:evenB l ks with
 | true =>
  rw [hB,if_pos rfl] at he
  have ok:=even_ok hB (fun r hr v hv=>(hl r hr v hv).1) hk
  cases even_say ok with
  | err e he2 a s=>exact rows_law l _ [] ks b f 0 0 e (by simp) he (a b f) (r16_Rows_err ks _ b f e he2 s)
  | ok g hg a s=>exact rows_law l _ _ ks b f _ _ 0 (by rw [List.length_map,sortF_len,List.length_map];have:=ok.len;omega) he (a b f hb hf) (r16_Rows_ok ks _ _ (by have:=ok.len;omega) b f (s _ (by have:=ok.len;omega) fun r h=>h))
 | false =>
  rw [hB,if_neg (by simp)] at he
  exact rows_no l ks b f he
end Go.Ev
end
