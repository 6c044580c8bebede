import Derived.Test.YtimjepimjfcalaaGreatDoorMw1
set_option linter.all false
set_option maxRecDepth 100000
set_option maxHeartbeats 8000000
section
open Go Go.Proofs Go.RowKit
namespace Go.Ev
theorem half_eq (i j:Nat) (h:i+j≤1000000):IntKind.i64.wrap ((IntKind.u64.wrap (IntKind.i64.wrap ((i:Int)+(j:Int)))).fdiv (2 ^ min 1 64))=(((i+j) / 2:Nat):Int):=by
 rw [wrap_id (a:=(i:Int)+(j:Int)) (by omega) (by omega)]
 have h1:IntKind.u64.wrap ((i:Int)+(j:Int))=((i+j:Nat):Int):=by
  simp [IntKind.wrap,IntKind.signed,IntKind.bits]
  omega
 rw [h1,show (2:Int) ^ min 1 64=2 by decide,Int.fdiv_eq_ediv_of_nonneg _ (by omega),wrap_id (by omega) (by omega)]
 omega
theorem sym_one (ks:List Key) (hk:ks.length≤1000) (A:List Keyed) (x:Keyed) (M B:List Keyed) (hl:(A++x :: (M++B)).length≤100000) (hx:WK ks x) (hM:∀ q,q ∈ M→WK ks q) (sM:Srt ks M) :
  Good Tryz.prog 63 [.sl 0 0 (A++x :: (M++B)).length,cI A.length,cI (A.length+1:Nat),cI (A.length+1+M.length:Nat),.c (orderC ks)] [krow (A++x :: (M++B))] (.tup []) [krow (A++sortF ks (x :: M)++B)]:=by
 have O:=isOrd ks
 obtain ⟨N,hN⟩:∃ N,N=(A++x :: (M++B)).length:=⟨_,rfl⟩
 obtain ⟨a,ha⟩:∃ a,a=A.length:=⟨_,rfl⟩
 obtain ⟨w,hw⟩:∃ w,w=M.length:=⟨_,rfl⟩
 obtain ⟨Z,hZ⟩:∃ Z,Z=sortF ks (x :: M):=⟨_,rfl⟩
 have hbN:a+1+w≤N:=by rw [hN,ha,hw];simp only [List.length_append,List.length_cons];omega
 rw [← hN] at hl ⊢
 rw [← ha,← hw,← hZ]
 have e0:IntKind.i64.wrap (((a+1:Nat):Int)-(a:Int))=1:=by rw [wrap_id (by omega) (by omega)];omega
 obtain ⟨T,hT⟩:∃ T,T=A++x :: (M++B):=⟨_,rfl⟩
 rw [← hT]
 have hTl:T.length=N:=by rw [hT,hN]
 have qa:T[a]?=some x:=by rw [hT];exact get_at _ _ _ ha.symm
 have qM:∀ t,T[a+1+t]?=(M++B)[t]?:=fun t=>by
  rw [hT,List.getElem?_append_right (by omega),show a+1+t-A.length=t+1 by omega,List.getElem?_cons_succ]
 refine Good.of_vmQ TT 4000 Tryz.func63 rfl rfl ?_
 unfold Tryz.f63
 simp only [go_sem,orderC,e0,go_sem_proc]
 refine Lp.at TT 4000 1 (Nat.le_of_ble_eq_true rfl) [false,false,false,false,false,false,false,false,false,false,true,true,true,false,false,false,false,false,false,false,false,false,false,false,false,false,false,false,false,false,false,true,true,true,true,true,true,true,true,true,true,true,true,true,true,true,true,true,true,true,true,true,true,true] (fun s:Nat × Nat=>s.2-s.1) (fun s=>s.1≤s.2∧s.2≤w∧(∀ t y,t<s.1→M[t]?=some y→ordF ks y.2 x.2<0)∧(∀ t y,s.2≤t→M[t]?=some y→¬ ordF ks y.2 x.2<0)) (fun s=>[(10,cI (a+1+s.1:Nat)),(11,cI (a+1+s.2:Nat))]) (fun _=>[]) ((0,w)) (⟨Nat.zero_le _,Nat.le_refl _,fun t y h=>absurd h (Nat.not_lt_zero _),fun t y h hy=>by
  have:=(List.getElem?_eq_some_iff.1 hy).1
  omega⟩) ?_ ?_
 ·simp only [go_sem,go_sem_proc]
  first | done | rfl
 ·rintro ⟨i,j⟩ ⟨i1,i2,i3,i4⟩
  simp only at i1 i2 i3 i4
  rcases Nat.lt_or_ge i j with hlt | hge
  ·have g1:(((a+1+i:Nat):Int)<((a+1+j:Nat):Int))=True:=by simp;omega
   have hh:IntKind.i64.wrap ((IntKind.u64.wrap (IntKind.i64.wrap (((a+1+i:Nat):Int)+((a+1+j:Nat):Int)))).fdiv (2 ^ min 1 64))=((a+1+(i+j) / 2:Nat):Int):=by
    rw [half_eq _ _ (by omega)];congr 1;omega
   obtain ⟨h,hhe⟩:∃ h,h=(i+j) / 2:=⟨_,rfl⟩
   rw [← hhe] at hh
   obtain ⟨y,hy,hym,_,_⟩:=getB hw.symm (show h<w by omega)
   have qh:T[a+1+h]?=some y:=by rw [qM,List.getElem?_append_left (by omega)];exact hy
   have ho:=order1_good ks y x (hM y hym) hx hk
   have hb1:a<N:=by omega
   have hb2:a+1+h<N:=by omega
   have hw1:IntKind.i64.wrap (((a+1+h:Nat):Int)+1)=((a+1+(h+1):Nat):Int):=wrap_succ (by omega)
   simp only [go_sem,g1,hh,go_sem_proc]
   refine Dr.of TT (by kernel_rfl) [(46,[.agg [.c (rowC y.1),.c (rowC y.2)],.agg [.c (rowC x.1),.c (rowC x.2)],.rd [keysC ks]],cI (ordF ks y.2 x.2))] ⟨⟨ho,rfl⟩,trivial⟩ ?_
   clear ho
   obtain ⟨o,hoe⟩:∃ o,o=ordF ks y.2 x.2:=⟨_,rfl⟩
   rw [← hoe]
   simp only [go_sem,qa,qh,hb1,hb2,hTl,Nat.zero_add,List.length_map,go_sem_proc]
   refine DEnd.of TT 4000 (memOK_quiet rfl) ?_
   by_cases ho:o<0
   ·have ho1:(o<0)=True:=eq_true ho
    simp only [go_sem,ho1,hw1,go_sem_proc]
    exact ⟨(h+1,j),by simp only;omega,⟨by simp only;omega,i2,fun t z ht hz=>le_lt O (hM z (List.mem_of_getElem? hz)) (hM y hym) hx (srt_le O hM sM (by simp only at ht;omega) hz hy) (hoe ▸ ho),i4⟩,Fit1.of_eq rfl,Fit1.of_eq rfl⟩
   ·have ho1:(o<0)=False:=eq_false ho
    simp only [go_sem,ho1,go_sem_proc]
    exact ⟨(i,h),by simp only;omega,⟨by simp only;omega,by simp only;omega,i3,fun t z ht hz hc=>ho (hoe ▸ le_lt O (hM y hym) (hM z (List.mem_of_getElem? hz)) hx (srt_le O hM sM ht hy hz) hc)⟩,Fit1.of_eq rfl,Fit1.of_eq rfl⟩
  ·obtain rfl:i=j:=by omega
   have g1:(((a+1+i:Nat):Int)<((a+1+i:Nat):Int))=False:=by simp
   have hre:=one_in O hx hM sM i3 i4
   rw [← hZ] at hre
   have hw2:IntKind.i64.wrap (((a+1+i:Nat):Int)-1)=((a+i:Nat):Int):=by rw [wrap_id (by omega) (by omega)];omega
   simp only [go_sem,g1,go_sem_proc]
   refine Lp.at TT 4000 1 (Nat.le_of_ble_eq_true rfl) [false,false,false,false,false,false,false,false,false,false,false,false,false,true,false,false,false,false,false,false,false,false,false,false,false,false,false,false,false,false,false,false,false,false,false,false,false,false,false,false,false,false,false,false,false,false,false,false,false,false,false,false,false,false,false,true,true,true,true,true,true,true,true,true,true,true,true,true,true,true,true,true,true,true,true,true,true] (fun c:Nat=>i-c) (fun c=>c≤i) (fun c=>[(13,cI (a+c:Nat))]) (fun c=>[(0,.rows 2 69 ((A++M.take c++x :: (M.drop c++B)).map kcell))]) (0) (Nat.zero_le _) ?_ ?_
   ·simp only [go_sem,go_sem_proc]
    rw [hT]
    first | done | rfl | (exact ⟨Fit1.of_eq rfl,rfl⟩)
   ·rintro c k1
    rcases Nat.lt_or_ge c i with hci | hci
    ·have g2:(((a+c:Nat):Int)<((a+i:Nat):Int))=True:=by simp;omega
     obtain ⟨y,hy,hym,hyt,hyd⟩:=getB hw.symm (show c<w by omega)
     have hti:(A++M.take c).length=a+c:=by rw [List.length_append,List.length_take,← ha,Nat.min_eq_left (by omega)]
     have e1:A++M.take c++x :: (M.drop c++B)=(A++M.take c++[x])++y :: (M.drop (c+1)++B):=by rw [hyd];simp
     have e2:A++M.take c++y :: (M.drop c++B)=(A++M.take c++[y])++y :: (M.drop (c+1)++B):=by rw [hyd];simp
     have hti1:(A++M.take c++[x]).length=a+(c+1):=by rw [List.length_append,hti];rfl
     have hti2:(A++M.take c++[y]).length=a+(c+1):=by rw [List.length_append,hti];rfl
     have q1:(A++M.take c++x :: (M.drop c++B))[a+c]?=some x:=get_at _ _ _ hti
     have q2:(A++M.take c++x :: (M.drop c++B))[a+(c+1)]?=some y:=by rw [e1];exact get_at _ _ _ hti1
     have q3:((A++M.take c++x :: (M.drop c++B)).set (a+c) y).set (a+(c+1)) x=A++M.take (c+1)++x :: (M.drop (c+1)++B):=by
      rw [set_at _ _ _ _ hti,e2,set_at _ _ _ _ hti2,hyt];simp
     have hlY:(A++M.take c++x :: (M.drop c++B)).length=N:=by
      rw [hN];simp only [List.length_append,List.length_cons,List.length_take,List.length_drop];omega
     obtain ⟨Y,hY⟩:∃ Y,Y=A++M.take c++x :: (M.drop c++B):=⟨_,rfl⟩
     rw [← hY] at q1 q2 q3 hlY ⊢
     have q4:(Y.set (a+c) y)[a+(c+1)]?=some y:=by rw [List.getElem?_set_ne (by omega)];exact q2
     have hb1:a+c<N:=by omega
     have hb2:a+(c+1)<N:=by omega
     have hw1:IntKind.i64.wrap (((a+c:Nat):Int)+1)=((a+(c+1):Nat):Int):=wrap_succ (by omega)
     simp only [go_sem,hw2,g2,go_sem_proc]
     refine Dr.of TT (by kernel_rfl) [] trivial ?_
     simp only [go_sem,hw1,q1,q2,hb1,hb2,hlY,Nat.zero_add,List.length_map,kset,q4,q3,go_sem_proc]
     refine DEnd.of TT 4000 (memOK_of2 (by kernel_rfl)) ?_
     simp only [go_sem,hw1,go_sem_proc]
     exact ⟨c+1,by omega,by omega,Fit1.of_eq rfl,rfl⟩
    ·obtain rfl:c=i:=by omega
     have g2:(((a+c:Nat):Int)<((a+c:Nat):Int))=False:=by simp
     have hf:A++M.take c++x :: (M.drop c++B)=A++Z++B:=by rw [← hre];simp
     simp only [go_sem,hw2,g2,hf,go_sem_proc]
end Go.Ev
end
section
open Go Go.Proofs Go.RowKit
namespace Go.Ev
theorem sym_last (ks:List Key) (hk:ks.length≤1000) (A L:List Keyed) (y:Keyed) (B:List Keyed) (hl:(A++L++y :: B).length≤100000) (hy:WK ks y) (hL:∀ q,q ∈ L→WK ks q) (sL:Srt ks L) (hl1:L.length≠1) :
  Good Tryz.prog 63 [.sl 0 0 (A++L++y :: B).length,cI A.length,cI (A.length+L.length:Nat),cI (A.length+L.length+1:Nat),.c (orderC ks)] [krow (A++L++y :: B)] (.tup []) [krow (A++sortF ks (L++[y])++B)]:=by
 have O:=isOrd ks
 obtain ⟨N,hN⟩:∃ N,N=(A++L++y :: B).length:=⟨_,rfl⟩
 obtain ⟨a,ha⟩:∃ a,a=A.length:=⟨_,rfl⟩
 obtain ⟨l,hll⟩:∃ l,l=L.length:=⟨_,rfl⟩
 obtain ⟨Z,hZ⟩:∃ Z,Z=sortF ks (L++[y]):=⟨_,rfl⟩
 have hbN:a+l+1≤N:=by rw [hN,ha,hll];simp only [List.length_append,List.length_cons];omega
 rw [← hll] at hl1
 rw [← hN] at hl ⊢
 rw [← ha,← hll,← hZ]
 have e0:IntKind.i64.wrap (((a+l:Nat):Int)-(a:Int))=(l:Int):=by rw [wrap_id (by omega) (by omega)];omega
 have e1:IntKind.i64.wrap (((a+l+1:Nat):Int)-((a+l:Nat):Int))=1:=by rw [wrap_id (by omega) (by omega)];omega
 have c0:((l:Int) == 1)=false:=by rw [beq_eq_false_iff_ne];omega
 obtain ⟨T,hT⟩:∃ T,T=A++L++y :: B:=⟨_,rfl⟩
 rw [← hT]
 have hTl:T.length=N:=by rw [hT,hN]
 have qm:T[a+l]?=some y:=by rw [hT];exact get_at _ _ _ (by rw [List.length_append,ha,hll])
 have qL:∀ t,t<l→T[a+t]?=L[t]?:=fun t ht=>by
  rw [hT,List.getElem?_append_left (by rw [List.length_append];omega),List.getElem?_append_right (by omega),show a+t-A.length=t by omega]
 refine Good.of_vmQ TT 4000 Tryz.func63 rfl rfl ?_
 unfold Tryz.f63
 simp only [go_sem,orderC,e0,e1,c0,go_sem_proc]
 refine Lp.at TT 4000 1 (Nat.le_of_ble_eq_true rfl) [false,false,false,false,false,false,false,false,false,false,false,false,false,false,true,true,true,false,false,false,false,false,false,false,false,false,false,false,false,false,false,false,false,false,false,false,false,false,false,false,false,false,false,false,false,false,false,false,false,false,false,false,false,false,false,false,false,false,false,false,false,false,false,false,false,false,false,false,false,false,false,false,false,false,false,false,false,false,false,false,false,false,false,true,true,true,true,true,true,true,true,true,true,true,true,true,true,true,true,true,true,true,true,true,true,true,true] (fun s:Nat × Nat=>s.2-s.1) (fun s=>s.1≤s.2∧s.2≤l∧(∀ t x,t<s.1→L[t]?=some x→¬ ordF ks y.2 x.2<0)∧(∀ t x,s.2≤t→L[t]?=some x→ordF ks y.2 x.2<0)) (fun s=>[(14,cI (a+s.1:Nat)),(15,cI (a+s.2:Nat))]) (fun _=>[]) ((0,l)) (⟨Nat.zero_le _,Nat.le_refl _,fun t y h=>absurd h (Nat.not_lt_zero _),fun t y h hy=>by
  have:=(List.getElem?_eq_some_iff.1 hy).1
  omega⟩) ?_ ?_
 ·simp only [go_sem,go_sem_proc]
  exact Fit1.of_eq rfl
 ·rintro ⟨i,j⟩ ⟨i1,i2,i3,i4⟩
  simp only at i1 i2 i3 i4
  rcases Nat.lt_or_ge i j with hlt | hge
  ·have g1:(((a+i:Nat):Int)<((a+j:Nat):Int))=True:=by simp;omega
   have hh:IntKind.i64.wrap ((IntKind.u64.wrap (IntKind.i64.wrap (((a+i:Nat):Int)+((a+j:Nat):Int)))).fdiv (2 ^ min 1 64))=((a+(i+j) / 2:Nat):Int):=by
    rw [half_eq _ _ (by omega)];congr 1;omega
   obtain ⟨h,hhe⟩:∃ h,h=(i+j) / 2:=⟨_,rfl⟩
   rw [← hhe] at hh
   obtain ⟨x,hx,hxm,_,_⟩:=getB hll.symm (show h<l by omega)
   have qh:T[a+h]?=some x:=by rw [qL h (by omega)];exact hx
   have ho:=order1_good ks y x hy (hL x hxm) hk
   have hb1:a+l<N:=by omega
   have hb2:a+h<N:=by omega
   have hw1:IntKind.i64.wrap (((a+h:Nat):Int)+1)=((a+(h+1):Nat):Int):=wrap_succ (by omega)
   simp only [go_sem,g1,hh,go_sem_proc]
   refine Dr.of TT (by kernel_rfl) [(46,[.agg [.c (rowC y.1),.c (rowC y.2)],.agg [.c (rowC x.1),.c (rowC x.2)],.rd [keysC ks]],cI (ordF ks y.2 x.2))] ⟨⟨ho,rfl⟩,trivial⟩ ?_
   clear ho
   obtain ⟨o,hoe⟩:∃ o,o=ordF ks y.2 x.2:=⟨_,rfl⟩
   rw [← hoe]
   simp only [go_sem,qm,qh,hb1,hb2,hTl,Nat.zero_add,List.length_map,go_sem_proc]
   refine DEnd.of TT 4000 (memOK_quiet rfl) ?_
   by_cases ho:o<0
   ·have ho1:(o<0)=True:=eq_true ho
    simp only [go_sem,ho1,go_sem_proc]
    exact ⟨(i,h),by simp only;omega,⟨by simp only;omega,by simp only;omega,i3,fun t z ht hz=>lt_le O hy (hL x hxm) (hL z (List.mem_of_getElem? hz)) (hoe ▸ ho) (srt_le O hL sL ht hx hz)⟩,Fit1.of_eq rfl,Fit1.of_eq rfl⟩
   ·have ho1:(o<0)=False:=eq_false ho
    simp only [go_sem,ho1,hw1,go_sem_proc]
    exact ⟨(h+1,j),by simp only;omega,⟨by simp only;omega,i2,fun t z ht hz hc=>ho (hoe ▸ lt_le O hy (hL z (List.mem_of_getElem? hz)) (hL x hxm) hc (srt_le O hL sL (by simp only at ht;omega) hz hx)),i4⟩,Fit1.of_eq rfl,Fit1.of_eq rfl⟩
  ·obtain rfl:i=j:=by omega
   have g1:(((a+i:Nat):Int)<((a+i:Nat):Int))=False:=by simp
   have hre:=in_one O hy hL sL i3 i4
   rw [← hZ] at hre
   simp only [go_sem,g1,go_sem_proc]
   refine Lp.at TT 4000 1 (Nat.le_of_ble_eq_true rfl) [false,false,false,false,false,false,false,false,false,false,false,false,false,false,false,false,false,true,false,false,false,false,false,false,false,false,false,false,false,false,false,false,false,false,false,false,false,false,false,false,false,false,false,false,false,false,false,false,false,false,false,false,false,false,false,false,false,false,false,false,false,false,false,false,false,false,false,false,false,false,false,false,false,false,false,false,false,false,false,false,false,false,false,false,false,false,false,false,false,false,false,false,false,false,false,false,false,false,false,false,false,false,false,false,false,false,false,false,true,true,true,true,true,true,true,true,true,true,true,true,true,true,true,true,true,true,true,true,true] (fun c:Nat=>c) (fun c=>i≤c∧c≤l) (fun c=>[(17,cI (a+c:Nat))]) (fun c=>[(0,.rows 2 69 ((A++L.take c++y :: (L.drop c++B)).map kcell))]) (l) (⟨i2,Nat.le_refl _⟩) ?_ ?_
   ·simp only [go_sem,go_sem_proc]
    rw [hT,List.take_of_length_le (by omega),List.drop_of_length_le (by omega)]
    first | done | rfl | (exact ⟨Fit1.of_eq rfl,rfl⟩)
   ·rintro c ⟨k0,k1⟩
    rcases Nat.lt_or_ge i c with hci | hci
    ·obtain ⟨d,rfl⟩:∃ d,c=d+1:=⟨c-1,by omega⟩
     have g2:(((a+i:Nat):Int)<((a+(d+1):Nat):Int))=True:=by simp;omega
     obtain ⟨x,hx,hxm,hxt,hxd⟩:=getB hll.symm (show d<l by omega)
     have hti:(A++L.take d).length=a+d:=by rw [List.length_append,List.length_take,← ha,Nat.min_eq_left (by omega)]
     have f1:A++L.take (d+1)++y :: (L.drop (d+1)++B)=A++L.take d++x :: (y :: (L.drop (d+1)++B)):=by rw [hxt];simp
     have f2:A++L.take d++x :: (y :: (L.drop (d+1)++B))=(A++L.take d++[x])++y :: (L.drop (d+1)++B):=by simp
     have f3:(A++L.take d++[x])++x :: (L.drop (d+1)++B)=A++L.take d++x :: (L.drop d++B):=by rw [hxd];simp
     have hti1:(A++L.take d++[x]).length=a+(d+1):=by rw [List.length_append,hti];rfl
     have q1:(A++L.take (d+1)++y :: (L.drop (d+1)++B))[a+d]?=some x:=by rw [f1];exact get_at _ _ _ hti
     have q2:(A++L.take (d+1)++y :: (L.drop (d+1)++B))[a+(d+1)]?=some y:=by rw [f1,f2];exact get_at _ _ _ hti1
     have q3:((A++L.take (d+1)++y :: (L.drop (d+1)++B)).set (a+(d+1)) x).set (a+d) y=A++L.take d++y :: (L.drop d++B):=by
      rw [f1,f2,set_at _ _ _ _ hti1,f3,set_at _ _ _ _ hti]
     have hlY:(A++L.take (d+1)++y :: (L.drop (d+1)++B)).length=N:=by
      rw [hN];simp only [List.length_append,List.length_cons,List.length_take,List.length_drop];omega
     obtain ⟨Y,hY⟩:∃ Y,Y=A++L.take (d+1)++y :: (L.drop (d+1)++B):=⟨_,rfl⟩
     rw [← hY] at q1 q2 q3 hlY ⊢
     have q4:(Y.set (a+(d+1)) x)[a+d]?=some x:=by rw [List.getElem?_set_ne (by omega)];exact q1
     have hb1:a+d<N:=by omega
     have hb2:a+(d+1)<N:=by omega
     have hw1:IntKind.i64.wrap (((a+(d+1):Nat):Int)-1)=((a+d:Nat):Int):=by rw [wrap_id (by omega) (by omega)];omega
     simp only [go_sem,g2,go_sem_proc]
     refine Dr.of TT (by kernel_rfl) [] trivial ?_
     simp only [go_sem,hw1,q1,q2,hb1,hb2,hlY,Nat.zero_add,List.length_map,kset,q4,q3,go_sem_proc]
     refine DEnd.of TT 4000 (memOK_of2 (by kernel_rfl)) ?_
     simp only [go_sem,hw1,go_sem_proc]
     exact ⟨d,by omega,⟨by omega,by omega⟩,Fit1.of_eq rfl,rfl⟩
    ·obtain rfl:c=i:=by omega
     have g2:(((a+c:Nat):Int)<((a+c:Nat):Int))=False:=by simp
     have hf:A++L.take c++y :: (L.drop c++B)=A++Z++B:=by rw [← hre];simp
     simp only [go_sem,g2,hf,go_sem_proc]
end Go.Ev
end
