import Derived.Test.YtimjepimjfcalaaGreatDoorMw2
set_option linter.all false
set_option maxRecDepth 100000
set_option maxHeartbeats 8000000
section
open Go Go.Proofs Go.RowKit
namespace Go.Ev
theorem sym_many (ks:List Key) (hk:ks.length≤1000) (A L M B:List Keyed) (hl:(A++L++M++B).length≤100000) (hL:∀ q,q ∈ L→WK ks q) (hM:∀ q,q ∈ M→WK ks q) (sL:Srt ks L) (sM:Srt ks M) (hl1:2≤L.length) (hm1:2≤M.length)
  (ih:∀ A' L' M' B':List Keyed,L'.length+M'.length<L.length+M.length→0<L'.length→0<M'.length→(A'++L'++M'++B').length≤100000→(∀ q,q ∈ L'→WK ks q)→(∀ q,q ∈ M'→WK ks q)→Srt ks L'→Srt ks M' →
   Good Tryz.prog 63 [.sl 0 0 (A'++L'++M'++B').length,cI A'.length,cI (A'.length+L'.length:Nat),cI (A'.length+L'.length+M'.length:Nat),.c (orderC ks)] [krow (A'++L'++M'++B')] (.tup []) [krow (A'++sortF ks (L'++M')++B')]) :
  Good Tryz.prog 63 [.sl 0 0 (A++L++M++B).length,cI A.length,cI (A.length+L.length:Nat),cI (A.length+L.length+M.length:Nat),.c (orderC ks)] [krow (A++L++M++B)] (.tup []) [krow (A++sortF ks (L++M)++B)]:=by
 have O:=isOrd ks
 obtain ⟨N,hN⟩:∃ N,N=(A++L++M++B).length:=⟨_,rfl⟩
 obtain ⟨a,ha⟩:∃ a,a=A.length:=⟨_,rfl⟩
 obtain ⟨l,hll⟩:∃ l,l=L.length:=⟨_,rfl⟩
 obtain ⟨w,hww⟩:∃ w,w=M.length:=⟨_,rfl⟩
 obtain ⟨Z,hZ⟩:∃ Z,Z=sortF ks (L++M):=⟨_,rfl⟩
 obtain ⟨u,hu⟩:∃ u,u=(l+w) / 2:=⟨_,rfl⟩
 have hbN:a+l+w≤N:=by rw [hN,ha,hll,hww];simp only [List.length_append];omega
 rw [← hll] at hl1
 rw [← hww] at hm1
 rw [← hN] at hl ⊢
 rw [← ha,← hll,← hww,← hZ]
 have e0:IntKind.i64.wrap (((a+l:Nat):Int)-(a:Int))=(l:Int):=by rw [wrap_id (by omega) (by omega)];omega
 have e1:IntKind.i64.wrap (((a+l+w:Nat):Int)-((a+l:Nat):Int))=(w:Int):=by rw [wrap_id (by omega) (by omega)];omega
 have c0:((l:Int) == 1)=false:=by rw [beq_eq_false_iff_ne];omega
 have c1:((w:Int) == 1)=false:=by rw [beq_eq_false_iff_ne];omega
 have hh0:IntKind.i64.wrap ((IntKind.u64.wrap (IntKind.i64.wrap ((a:Int)+((a+l+w:Nat):Int)))).fdiv (2 ^ min 1 64))=((a+u:Nat):Int):=by
  rw [half_eq _ _ (by omega)];congr 1;omega
 have hn0:IntKind.i64.wrap (((a+u:Nat):Int)+((a+l:Nat):Int))=((a+u+(a+l):Nat):Int):=by rw [wrap_id (by omega) (by omega)];omega
 have hp0:IntKind.i64.wrap (((a+u+(a+l):Nat):Int)-1)=((a+u+(a+l)-1:Nat):Int):=by rw [wrap_id (by omega) (by omega)];omega
 have hst0:IntKind.i64.wrap (((a+u+(a+l):Nat):Int)-((a+l+w:Nat):Int))=((a+(u-w):Nat):Int)∨l≤u:=by
  rcases Nat.lt_or_ge u l with h | h
  ·left;rw [wrap_id (by omega) (by omega)];omega
  ·right;exact h
 obtain ⟨T,hT⟩:∃ T,T=A++L++M++B:=⟨_,rfl⟩
 rw [← hT]
 have hTl:T.length=N:=by rw [hT,hN]
 have qL:∀ t,t<l→T[a+t]?=L[t]?:=fun t ht=>by
  rw [hT,List.append_assoc,List.getElem?_append_left (by rw [List.length_append];omega),List.getElem?_append_right (by omega),show a+t-A.length=t by omega]
 have qM:∀ t,t<w→T[a+l+t]?=M[t]?:=fun t ht=>by
  rw [hT,List.getElem?_append_left (by simp only [List.length_append];omega),List.getElem?_append_right (by rw [List.length_append];omega),List.length_append,show a+l+t-(A.length+L.length)=t by omega]
 refine Good.of_vmQ TT 4000 Tryz.func63 rfl rfl ?_
 unfold Tryz.f63
 simp only [go_sem,orderC,e0,e1,c0,c1,hh0,hn0,hp0,go_sem_proc]
 rcases Nat.lt_or_ge u l with hul | hul
 case' inl =>
  have g0:decide (a+u<a+l)=true:=decide_eq_true (by omega)
  simp only [go_sem,g0,hst0.resolve_right (by omega),hp0,go_sem_proc]
  obtain ⟨s0,hs0⟩:∃ s0,s0=u-w:=⟨_,rfl⟩
  obtain ⟨r0,hr0⟩:∃ r0,r0=u:=⟨_,rfl⟩
  have b1:s0≤r0:=by omega
  have b2:r0≤u:=by omega
  have b3:r0≤l:=by omega
  have b4:r0=u∨r0=L.length:=by omega
  have b5:s0=0∨s0+M.length=u:=by omega
  have b6:u≤s0+w:=by omega
  rw [← hs0]
 case' inr =>
  have g0:decide (a+u<a+l)=false:=decide_eq_false (by omega)
  simp only [go_sem,g0,hp0,go_sem_proc]
  obtain ⟨s0,hs0⟩:∃ s0,s0=0:=⟨_,rfl⟩
  obtain ⟨r0,hr0⟩:∃ r0,r0=l:=⟨_,rfl⟩
  have b1:s0≤r0:=by omega
  have b2:r0≤u:=by omega
  have b3:r0≤l:=by omega
  have b4:r0=u∨r0=L.length:=by omega
  have b5:s0=0∨s0+M.length=u:=by omega
  have b6:u≤s0+w:=by omega
 all_goals
  refine Lp.at TT 4000 1 (Nat.le_of_ble_eq_true rfl) [false,false,false,false,false,false,false,false,false,false,false,false,false,false,false,false,false,false,false,false,true,true,false,true,false,false,false,false,false,false,false,false,false,false,false,false,false,false,false,false,false,false,false,false,false,false,false,false,false,false,false,false,false,false,false,false,false,false,false,false,false,false,false,false,false,false,false,false,false,false,false,false,false,false,false,false,false,false,false,false,false,false,false,false,false,false,false,false,false,false,false,false,false,false,false,false,false,false,false,false,false,false,false,false,false,false,false,false,false,false,false,false,false,false,false,false,false,false,false,false,false,false,false,false,false,false,false,false,false,false,false,false,false,false,false,false,false,false,false,false,false,false,false,false,false,false,false,false,false,true,true,true,true,true,true,true,true,true,true,true,true,true,true,true,true,true,true,true,true,true,true,true,true,true,true] (fun s:Nat × Nat=>s.2-s.1) (fun s=>s0≤s.1∧s.1≤s.2∧s.2≤r0∧(∀ t,s0≤t→t<s.1→∀ x y,L[t]?=some x→M[u-1-t]?=some y→¬ ordF ks y.2 x.2<0)∧(∀ t,s.2≤t→t<r0→∀ x y,L[t]?=some x→M[u-1-t]?=some y→ordF ks y.2 x.2<0)) (fun s=>[(20,cI (a+s.1:Nat)),(21,cI (a+s.2:Nat))]) (fun _=>[]) ((s0,r0)) (⟨Nat.le_refl _,b1,Nat.le_refl _,fun t h g=>absurd g (Nat.not_lt.2 h),fun t h g=>absurd g (Nat.not_lt.2 h)⟩) ?_ ?_
  ·simp only [go_sem,go_sem_proc]
   first | done | exact ⟨Fit1.of_eq (by rw [hs0];rfl),Fit1.of_eq (by rw [hr0])⟩ | exact Fit1.of_eq (by rw [hs0];rfl) | exact Fit1.of_eq (by rw [hr0])
  ·rintro ⟨s,r⟩ ⟨i0,i1,i2,i3,i4⟩
   simp only at i0 i1 i2 i3 i4
   rcases Nat.lt_or_ge s r with hlt | hge
   ·have g1:(((a+s:Nat):Int)<((a+r:Nat):Int))=True:=by simp;omega
    have hh:IntKind.i64.wrap ((IntKind.u64.wrap (IntKind.i64.wrap (((a+s:Nat):Int)+((a+r:Nat):Int)))).fdiv (2 ^ min 1 64))=((a+(s+r) / 2:Nat):Int):=by
     rw [half_eq _ _ (by omega)];congr 1;omega
    obtain ⟨h,hhe⟩:∃ h,h=(s+r) / 2:=⟨_,rfl⟩
    rw [← hhe] at hh
    obtain ⟨x,hx,hxm,_,_⟩:=getB hll.symm (show h<l by omega)
    obtain ⟨y,hy,hym,_,_⟩:=getB hww.symm (show u-1-h<w by omega)
    have hpc:IntKind.i64.wrap (((a+u+(a+l)-1:Nat):Int)-((a+h:Nat):Int))=((a+l+(u-1-h):Nat):Int):=by rw [wrap_id (by omega) (by omega)];omega
    have qx:T[a+h]?=some x:=by rw [qL h (by omega)];exact hx
    have qy:T[a+l+(u-1-h)]?=some y:=by rw [qM _ (by omega)];exact hy
    have ho:=order1_good ks y x (hM y hym) (hL x hxm) hk
    have hb1:a+h<N:=by omega
    have hb2:a+l+(u-1-h)<N:=by omega
    have hw1:IntKind.i64.wrap (((a+h:Nat):Int)+1)=((a+(h+1):Nat):Int):=wrap_succ (by omega)
    simp only [go_sem,g1,hh,go_sem_proc]
    refine Dr.of TT (by kernel_rfl) [(46,[.agg [.c (rowC y.1),.c (rowC y.2)],.agg [.c (rowC x.1),.c (rowC x.2)],.rd [keysC ks]],cI (ordF ks y.2 x.2))] ⟨⟨ho,rfl⟩,trivial⟩ ?_
    clear ho
    obtain ⟨o,hoe⟩:∃ o,o=ordF ks y.2 x.2:=⟨_,rfl⟩
    rw [← hoe]
    simp only [go_sem,hpc,qx,qy,hb1,hb2,hTl,Nat.zero_add,List.length_map,go_sem_proc]
    refine DEnd.of TT 4000 (memOK_quiet rfl) ?_
    by_cases ho:o<0
    ·have ho1:(o<0)=True:=eq_true ho
     simp only [go_sem,ho1,go_sem_proc]
     refine ⟨(s,h),by simp only;omega,⟨i0,by simp only;omega,by simp only;omega,i3,fun t ht hr x' y' hx' hy'=>?_⟩,Fit1.of_eq rfl,Fit1.of_eq rfl⟩
     have wx:=hL x' (List.mem_of_getElem? hx')
     have wy:=hM y' (List.mem_of_getElem? hy')
     exact lt_le O wy (hL x hxm) wx (le_lt O wy (hM y hym) (hL x hxm) (srt_le O hM sM (by simp only at ht;omega) hy' hy) (hoe ▸ ho)) (srt_le O hL sL ht hx hx')
    ·have ho1:(o<0)=False:=eq_false ho
     simp only [go_sem,ho1,hw1,go_sem_proc]
     refine ⟨(h+1,r),by simp only;omega,⟨by simp only;omega,by simp only;omega,i2,fun t h0 ht x' y' hx' hy' hc=>?_,i4⟩,Fit1.of_eq rfl,Fit1.of_eq rfl⟩
     have wx:=hL x' (List.mem_of_getElem? hx')
     have wy:=hM y' (List.mem_of_getElem? hy')
     simp only at ht
     exact ho (hoe ▸ lt_le O (hM y hym) wx (hL x hxm) (le_lt O (hM y hym) wy wx (srt_le O hM sM (by omega) hy hy') hc) (srt_le O hL sL (by omega) hx' hx))
   ·obtain rfl:s=r:=by omega
    have g1:(((a+s:Nat):Int)<((a+s:Nat):Int))=False:=by simp
    have hre:=sym_split O (u:=u) (s:=s) (s0:=s0) (r0:=r0) hL hM sL sM i0 i2 b2 (by omega) b4 b5 i3 i4 (by omega)
    rw [← hZ] at hre
    have hend:IntKind.i64.wrap (((a+u+(a+l):Nat):Int)-((a+s:Nat):Int))=((a+l+(u-s):Nat):Int):=by rw [wrap_id (by omega) (by omega)];omega
    clear hh0 hn0 hp0 hst0 i3 i4 qL qM g0
    have hNN:N=a+l+w+B.length:=by rw [hN];simp only [List.length_append];omega
    have w1:∀ q,q ∈ L.take s→WK ks q:=fun q hq=>hL q (List.mem_of_mem_take hq)
    have w2:∀ q,q ∈ L.drop s→WK ks q:=fun q hq=>hL q (List.mem_of_mem_drop hq)
    have w3:∀ q,q ∈ M.take (u-s)→WK ks q:=fun q hq=>hM q (List.mem_of_mem_take hq)
    have w4:∀ q,q ∈ M.drop (u-s)→WK ks q:=fun q hq=>hM q (List.mem_of_mem_drop hq)
    have n1:(L.take s).length=s:=by rw [List.length_take];omega
    have n2:(L.drop s).length=l-s:=by rw [List.length_drop,hll]
    have n3:(M.take (u-s)).length=u-s:=by rw [List.length_take];omega
    have n4:(M.drop (u-s)).length=w-(u-s):=by rw [List.length_drop,hww]
    have sL2:Srt ks (L.take s++L.drop s):=by rw [List.take_append_drop];exact sL
    have sM2:Srt ks (M.take (u-s)++M.drop (u-s)):=by rw [List.take_append_drop];exact sM
    obtain ⟨r1,r2,_⟩:=List.pairwise_append.1 sL2
    obtain ⟨r3,r4,_⟩:=List.pairwise_append.1 sM2
    have hTs:T=A++(L.take s++L.drop s)++(M.take (u-s)++M.drop (u-s))++B:=by rw [List.take_append_drop,List.take_append_drop];exact hT
    have k1:l≤s→L.drop s=[]:=fun h=>List.drop_of_length_le (by omega)
    have k2:u≤s→M.take (u-s)=[]:=fun h=>by rw [show u-s=0 by omega];rfl
    have k3:w≤u-s→M.drop (u-s)=[]:=fun h=>List.drop_of_length_le (by omega)
    have k4:s=0→L.take s=[]:=fun h=>by rw [h];rfl
    generalize L.take s=L1 at *
    generalize L.drop s=L2 at *
    generalize M.take (u-s)=M1 at *
    generalize M.drop (u-s)=M2 at *
    obtain ⟨T1,hT1⟩:∃ T1,T1=A++L1++M1++(L2++M2++B):=⟨_,rfl⟩
    obtain ⟨T2,hT2⟩:∃ T2,T2=A++sortF ks (L1++M1)++(L2++M2++B):=⟨_,rfl⟩
    obtain ⟨T3,hT3⟩:∃ T3,T3=A++Z++B:=⟨_,rfl⟩
    have hR:s<l→s<u→Good Tryz.prog 101 [.sl 0 0 N,cI (a+s:Nat),cI (a+l:Nat),cI (a+l+(u-s):Nat),.c (orderC ks)] [krow T] (.tup []) [krow T1]:=fun d1 d2=>by
     have:=rotate_good ks (A++L1) L2 M1 (M2++B) (by simp only [List.length_append];omega) (by omega) (by omega)
     rw [show (A++L1++L2++M1++(M2++B)).length=N by simp only [List.length_append];omega,show (A++L1).length=a+s by rw [List.length_append];omega,show (A++L1++L2).length=a+l by simp only [List.length_append];omega,show (A++L1++L2++M1).length=a+l+(u-s) by simp only [List.length_append];omega] at this
     rw [hTs,hT1]
     simpa only [List.append_assoc] using this
    have hS1:0<s→s<u→Good Tryz.prog 63 [.sl 0 0 N,cI a,cI (a+s:Nat),cI (a+u:Nat),.c (orderC ks)] [krow T1] (.tup []) [krow T2]:=fun d1 d2=>by
     have:=ih A L1 M1 (L2++M2++B) (by omega) (by omega) (by omega) (by simp only [List.length_append];omega) w1 w3 r1 r3
     rwa [show (A++L1++M1++(L2++M2++B)).length=N by simp only [List.length_append];omega,← ha,n1,n3,show a+s+(u-s)=a+u by omega,← hT1,← hT2] at this
    have hS2:s<l→u-s<w→Good Tryz.prog 63 [.sl 0 0 N,cI (a+u:Nat),cI (a+l+(u-s):Nat),cI (a+l+w:Nat),.c (orderC ks)] [krow T2] (.tup []) [krow T3]:=fun d1 d2=>by
     have:=ih (A++sortF ks (L1++M1)) L2 M2 B (by omega) (by omega) (by omega) (by simp only [List.length_append,sortF_len];omega) w2 w4 r2 r4
     rw [show (A++sortF ks (L1++M1)++L2++M2++B).length=N by simp only [List.length_append,sortF_len];omega,n2,n4,show (A++sortF ks (L1++M1)).length=a+u by simp only [List.length_append,sortF_len];omega,show a+u+(l-s)+(w-(u-s))=a+l+w by omega,show a+u+(l-s)=a+l+(u-s) by omega] at this
     rw [hT2,hT3,← hre]
     simpa only [List.append_assoc] using this
    have x1:l≤s∨u≤s→T=T1:=fun h=>by
     rw [hTs,hT1]
     rcases h with h | h
     ·simp only [k1 h,List.nil_append,List.append_nil,List.append_assoc]
     ·simp only [k2 h,List.nil_append,List.append_nil,List.append_assoc]
    have x2:s=0∨u≤s→T1=T2:=fun h=>by
     rw [hT1,hT2]
     rcases h with h | h
     ·simp only [k4 h,List.nil_append,List.append_nil,sortF_id O w3 r3]
     ·simp only [k2 h,List.append_nil,sortF_id O w1 r1]
    have x3:l≤s∨w≤u-s→T2=T3:=fun h=>by
     rw [hT2,hT3,← hre]
     rcases h with h | h
     ·simp only [k1 h,List.nil_append,sortF_id O w4 r4,List.append_assoc]
     ·simp only [k3 h,List.append_nil,sortF_id O w2 r2,List.append_assoc]
    rw [← hT3]
    clear hTs hT1 hT2 hT3 hre r1 r2 r3 r4 w1 w2 w3 w4 n1 n2 n3 n4 sL2 sM2 k1 k2 k3 k4 sL sM ih hT
    have d6:∀ n:Nat,decide (a<a+n)=decide (0<n):=fun n=>decide_eq_decide.2 (by omega)
    rcases Nat.lt_or_ge s l with d1 | d1
    case' inr =>
     have f1:decide (a+s<a+l)=false:=decide_eq_false (by omega)
     simp only [go_sem,g1,hend,f1,x1 (.inl d1),go_sem_proc]
    case' inl =>
     have f1:decide (a+s<a+l)=true:=decide_eq_true (by omega)
     rcases Nat.lt_or_ge s u with d2 | d2
     case' inl =>
      have f2:decide (a+l<a+l+(u-s))=true:=decide_eq_true (by omega)
      simp only [go_sem,g1,hend,f1,f2,go_sem_proc]
      refine Cl.frame TT 4000 [0] (hR d1 d2) rfl (by simp only [go_sem,orderC,go_sem_proc]) (by simp only [go_sem,go_sem_proc]) (Nat.le_refl _) ?_
      simp only [go_sem,go_sem_proc]
     case' inr =>
      have f2:decide (a+l<a+l+(u-s))=false:=decide_eq_false (by omega)
      simp only [go_sem,g1,hend,f1,f2,x1 (.inr d2),go_sem_proc]
    all_goals
     clear hR x1
     rcases Nat.eq_zero_or_pos s with d3 | d3
     case' inl =>
      have f3:decide (a<a+s)=false:=decide_eq_false (by omega)
      simp only [go_sem,f3,x2 (.inl d3),go_sem_proc]
     case' inr =>
      have f3:decide (a<a+s)=true:=decide_eq_true (by omega)
      rcases Nat.lt_or_ge s u with d4 | d4
      case' inl =>
       have f4:decide (a+s<a+u)=true:=decide_eq_true (by omega)
       simp only [go_sem,f3,f4,go_sem_proc]
       refine Cl.frame TT 4000 [0] (hS1 d3 d4) rfl (by simp only [go_sem,orderC,go_sem_proc]) (by simp only [go_sem,go_sem_proc]) (Nat.le_refl _) ?_
       simp only [go_sem,go_sem_proc]
      case' inr =>
       have f4:decide (a+s<a+u)=false:=decide_eq_false (by omega)
       simp only [go_sem,f3,f4,x2 (.inr d4),go_sem_proc]
    all_goals
     clear hS1 x2
     rcases Nat.lt_or_ge s l with d5 | d5
     ·have f5:decide (a+u<a+l+(u-s))=true:=decide_eq_true (by omega)
      rcases Nat.lt_or_ge (u-s) w with d6 | d6
      ·have f6:decide (a+l+(u-s)<a+l+w)=true:=decide_eq_true (by omega)
       simp only [go_sem,f5,f6,go_sem_proc]
       refine Cl.frame TT 4000 [0] (hS2 d5 d6) rfl (by simp only [go_sem,orderC,go_sem_proc]) (by simp only [go_sem,go_sem_proc]) (Nat.le_refl _) ?_
       simp only [go_sem,go_sem_proc]
      ·have f6:decide (a+l+(u-s)<a+l+w)=false:=decide_eq_false (by omega)
       simp only [go_sem,f5,f6,x3 (.inr d6),go_sem_proc]
     ·have f5:decide (a+u<a+l+(u-s))=false:=decide_eq_false (by omega)
      simp only [go_sem,f5,x3 (.inl d5),go_sem_proc]
end Go.Ev
end
