import Derived.Test.YtimjepimjfcalaaGreatDoorMw3
import Derived.Test.YtimjepimjfcalaaGreatDoorMs8
import Derived.Test.YtimjepimjfcalaaGreatDoorMs9
import Derived.Test.YtimjepimjfcalaaGreatDoorMs1
set_option linter.all false
set_option maxRecDepth 100000
set_option maxHeartbeats 8000000
section
open Go Go.Proofs Go.RowKit
namespace Go.Ev
theorem sym_good (ks:List Key) (hk:ks.length≤1000):∀ (n:Nat) (A L M B:List Keyed),L.length+M.length≤n→0<L.length→0<M.length→(A++L++M++B).length≤100000→(∀ q,q ∈ L→WK ks q)→(∀ q,q ∈ M→WK ks q)→Srt ks L→Srt ks M →
  Good Tryz.prog 63 [.sl 0 0 (A++L++M++B).length,cI A.length,cI (A.length+L.length:Nat),cI (A.length+L.length+M.length:Nat),.c (orderC ks)] [krow (A++L++M++B)] (.tup []) [krow (A++sortF ks (L++M)++B)]
 | 0,A,L,M,B,h,h1,_,_,_,_,_,_=>by omega
 | n+1,A,L,M,B,h,h1,h2,hl,hL,hM,sL,sM=>by
  by_cases hl1:L.length=1
  ·match L,hl1 with
   | [x],_ =>
    have:=sym_one ks hk A x M B (by simpa using hl) (hL x (List.mem_singleton.2 rfl)) hM sM
    simpa only [List.append_assoc,List.singleton_append,List.length_singleton,List.cons_append,List.nil_append] using this
  ·by_cases hm1:M.length=1
   ·match M,hm1 with
    | [y],_ =>
     have:=sym_last ks hk A L y B (by simpa using hl) (hM y (List.mem_singleton.2 rfl)) hL sL hl1
     simpa only [List.append_assoc,List.singleton_append,List.length_singleton,List.cons_append,List.nil_append] using this
   ·exact sym_many ks hk A L M B hl hL hM sL sM (by omega) (by omega) fun A' L' M' B' h=>sym_good ks hk n A' L' M' B' (by omega)
def blkF (ks:List Key) (bs:Nat):Nat→List Keyed→List Keyed
 | 0,_=>[]
 | k+1,R=>if R.length=0 then [] else sortF ks (R.take bs)++blkF ks bs k (R.drop bs)
def blk (ks:List Key) (bs:Nat) (R:List Keyed):List Keyed:=blkF ks bs R.length R
theorem blkF_more (ks:List Key) (bs:Nat) (hb:1≤bs):∀ (k j:Nat) (R:List Keyed),R.length≤k→R.length≤j→blkF ks bs k R=blkF ks bs j R
 | 0,0,_,_,_=>rfl
 | 0,j+1,R,h,_=>by rw [blkF,blkF,if_pos (by omega)]
 | k+1,0,R,_,h=>by rw [blkF,blkF,if_pos (by omega)]
 | k+1,j+1,R,h,g=>by
  rw [blkF,blkF]
  split
  ·rfl
  ·rw [blkF_more ks bs hb k j _ (by rw [List.length_drop];omega) (by rw [List.length_drop];omega)]
theorem blk_step (ks:List Key) {bs:Nat} (hb:1≤bs) {R:List Keyed} (h:0<R.length):blk ks bs R=sortF ks (R.take bs)++blk ks bs (R.drop bs):=by
 unfold blk
 obtain ⟨k,hk⟩:∃ k,R.length=k+1:=⟨R.length-1,by omega⟩
 rw [hk,blkF,if_neg (by omega),blkF_more ks bs hb k (R.drop bs).length _ (by rw [List.length_drop];omega) (Nat.le_refl _)]
theorem blk_nil (ks:List Key) (bs:Nat) {R:List Keyed} (h:R.length=0):blk ks bs R=[]:=by unfold blk;rw [h];rfl
theorem blk_small (ks:List Key) {bs:Nat} (hb:1≤bs) {R:List Keyed} (h:R.length≤bs):blk ks bs R=sortF ks R:=by
 rcases Nat.eq_zero_or_pos R.length with h0 | h0
 ·rw [blk_nil ks bs h0,List.eq_nil_of_length_eq_zero h0];rfl
 ·rw [blk_step ks hb h0,List.take_of_length_le h,blk_nil ks bs (by rw [List.length_drop];omega),List.append_nil]
theorem blk_len (ks:List Key) {bs:Nat} (hb:1≤bs):∀ (k:Nat) (R:List Keyed),R.length≤k→(blk ks bs R).length=R.length
 | 0,R,h=>by rw [blk_nil ks bs (by omega)];simp;omega
 | k+1,R,h=>by
  rcases Nat.eq_zero_or_pos R.length with h0 | h0
  ·rw [blk_nil ks bs h0];simp;omega
  ·rw [blk_step ks hb h0,List.length_append,sortF_len,blk_len ks hb k _ (by rw [List.length_drop];omega),List.length_take,List.length_drop];omega
theorem blk_two (ks:List Key) {bs:Nat} (hb:1≤bs) {R:List Keyed} (h:bs<R.length):blk ks bs R=sortF ks (R.take bs)++sortF ks ((R.drop bs).take bs)++blk ks bs (R.drop (2*bs)):=by
 rw [blk_step ks hb (by omega),blk_step ks hb (R:=R.drop bs) (by rw [List.length_drop];omega),List.drop_drop,List.append_assoc,show bs+bs=2*bs by omega]
theorem take_two {α:Type} (bs:Nat) (R:List α):R.take bs++(R.drop bs).take bs=R.take (2*bs):=by
 rw [show 2*bs=bs+bs by omega,List.take_add]
theorem stable_good (ks:List Key) (hk:ks.length≤1000) (L:List Keyed) (hl:L.length≤10000) (hW:∀ q,q ∈ L→WK ks q) :
  Good Tryz.prog 48 [.sl 0 0 L.length,cI L.length,.c (orderC ks)] [krow L] (.tup []) [krow (sortF ks L)]:=by
 have O:=isOrd ks
 obtain ⟨n,hn⟩:∃ n,n=L.length:=⟨_,rfl⟩
 rw [← hn] at hl ⊢
 obtain ⟨Z,hZ⟩:∃ Z,Z=sortF ks L:=⟨_,rfl⟩
 rw [← hZ]
 refine Good.of_vmQ TT 4000 Tryz.func48 rfl rfl ?_
 unfold Tryz.f48
 simp only [go_sem,orderC,go_sem_proc]
 refine Lp.at TT 4000 1 (Nat.le_of_ble_eq_true rfl) [false,false,false,false,false,false,false,true,true,false,false,true,true,true,true,true,true,true,true,true,true,true,true] (fun s:List Keyed × List Keyed=>s.2.length) (fun s=>blk ks 20 L=s.1++blk ks 20 s.2∧s.1.length+s.2.length=n∧∀ q,q ∈ s.2→WK ks q) (fun s=>[(7,cI s.1.length),(8,cI (s.1.length+20:Nat))]) (fun s=>[(0,.rows 2 69 ((s.1++s.2).map kcell))]) (([],L)) (⟨rfl,by simp [hn],hW⟩) ?_ ?_
 ·simp only [go_sem,go_sem_proc]
  exact Fit1.of_eq rfl
 ·rintro ⟨D,R⟩ ⟨i1,i2,i3⟩
  simp only at i1 i2 i3
  obtain ⟨a,ha⟩:∃ a,a=D.length:=⟨_,rfl⟩
  rw [← ha] at i2
  rcases Nat.lt_or_ge R.length 20 with hR | hR
  ·have g1:(((a+20:Nat):Int)≤(n:Int))=False:=by simp;omega
   have S:=insertion_good ks hk D R [] (by simp only [List.length_append,List.length_nil];omega) i3
   rw [List.append_nil,List.append_nil,List.length_append,← ha,i2] at S
   rw [blk_small ks (by omega) (by omega:R.length≤20)] at i1
   rw [← i1] at S
   simp only [go_sem,← ha,g1,go_sem_proc]
   refine Cl.frame TT 4000 [0] S rfl (by simp only [go_sem,orderC,go_sem_proc]) (by simp only [go_sem,go_sem_proc]) (Nat.le_refl _) ?_
   simp only [go_sem,go_sem_proc]
   refine Lp.at TT 4000 1 (Nat.le_of_ble_eq_true rfl) [false,false,false,false,false,false,true,true,true,true,false,false,false,false,false,false,false,false,false,false,false,false,false,false,false,false,false,false,true,true,true,true,true,true,true,true,true,true,true,true,true,true,true,true,true,true,true,true,true,true,true,true,true,true,true,true,true,true,true,true,true,true,true] (fun bs:Nat=>n-bs) (fun bs=>1≤bs) (fun bs=>[(6,cI bs)]) (fun bs=>[(0,.rows 2 69 ((blk ks bs L).map kcell))]) (20) (by omega) ?_ ?_
   ·simp only [go_sem,go_sem_proc]
    exact Fit1.of_eq rfl
   ·rintro bs hb
    rcases Nat.lt_or_ge bs n with hbn | hbn
    ·have f1:((bs:Int)<(n:Int))=True:=by simp;omega
     have fm:IntKind.i64.wrap (2*(bs:Int))=((2*bs:Nat):Int):=by rw [wrap_id (by omega) (by omega)];omega
     have fm2:IntKind.i64.wrap ((bs:Int)*2)=((2*bs:Nat):Int):=by rw [wrap_id (by omega) (by omega)];omega
     clear S i1 i2 i3 g1 hR
     simp only [go_sem,f1,fm,go_sem_proc]
     refine Lp.at TT 4000 1 (Nat.le_of_ble_eq_true rfl) [false,false,false,false,false,false,false,true,true,false,false,false,false,false,false,false,false,false,false,false,false,false,false,false,false,false,false,false,false,false,false,false,false,true,true,true,true,true,true,true,true,true,true,true,true,true,true,true,true] (fun s:List Keyed × List Keyed=>s.2.length) (fun s=>blk ks (2*bs) L=s.1++blk ks (2*bs) s.2∧s.1.length+s.2.length=n∧∀ q,q ∈ s.2→WK ks q) (fun s=>[(7,cI s.1.length),(8,cI (s.1.length+2*bs:Nat))]) (fun s=>[(0,.rows 2 69 ((s.1++blk ks bs s.2).map kcell))]) (([],L)) (⟨rfl,by simp [hn],hW⟩) ?_ ?_
     ·simp only [go_sem,go_sem_proc]
      exact Fit1.of_eq (by rw [Nat.zero_add])
     ·rintro ⟨D,R⟩ ⟨i1,i2,i3⟩
      simp only at i1 i2 i3
      obtain ⟨a,ha⟩:∃ a,a=D.length:=⟨_,rfl⟩
      rw [← ha] at i2
      have bl:(blk ks bs R).length=R.length:=blk_len ks hb _ R (Nat.le_refl _)
      have wt:∀ q,q ∈ sortF ks (R.take bs)→WK ks q:=fun q hq=>i3 q (List.mem_of_mem_take ((sortF_mem ks _ q).1 hq))
      have wd:∀ q,q ∈ R.drop bs→WK ks q:=fun q hq=>i3 q (List.mem_of_mem_drop hq)
      have st1:Srt ks (sortF ks (R.take bs)):=sortF_srt ks (WK ks) O _ fun q hq=>i3 q (List.mem_of_mem_take hq)
      have fab:IntKind.i64.wrap ((a:Int)+(bs:Int))=((a+bs:Nat):Int):=by rw [wrap_id (by omega) (by omega)];omega
      rcases Nat.lt_or_ge R.length (2*bs) with hR | hR
      ·have g2:(((a+2*bs:Nat):Int)≤(n:Int))=False:=by simp;omega
       rw [blk_small ks (by omega) (by omega:R.length≤2*bs)] at i1
       rcases Nat.lt_or_ge bs R.length with hR2 | hR2
       ·have g3:(((a+bs:Nat):Int)<(n:Int))=True:=by simp;omega
        have st2:Srt ks (sortF ks (R.drop bs)):=sortF_srt ks (WK ks) O _ wd
        have S:=sym_good ks hk _ D (sortF ks (R.take bs)) (sortF ks (R.drop bs)) [] (Nat.le_refl _) (by rw [sortF_len,List.length_take];omega) (by rw [sortF_len,List.length_drop];omega) (by simp only [List.length_append,sortF_len,List.length_take,List.length_drop,List.length_nil];omega) wt (fun q hq=>wd q ((sortF_mem ks _ q).1 hq)) st1 st2
        rw [sortF_parts O (fun q hq=>i3 q (List.mem_of_mem_take hq)) wd,List.take_append_drop,List.append_nil,List.append_nil,← i1] at S
        rw [show (D++sortF ks (R.take bs)++sortF ks (R.drop bs)).length=n by simp only [List.length_append,sortF_len,List.length_take,List.length_drop];omega,sortF_len,sortF_len,List.length_take,List.length_drop,Nat.min_eq_left (by omega),← ha,show a+bs+(R.length-bs)=n by omega] at S
        have e1:D++blk ks bs R=D++sortF ks (R.take bs)++sortF ks (R.drop bs):=by rw [blk_step ks hb (by omega),blk_small ks hb (by rw [List.length_drop];omega),List.append_assoc]
        simp only [go_sem,← ha,g2,fab,g3,e1,go_sem_proc]
        refine Cl.frame TT 4000 [0] S rfl (by simp only [go_sem,orderC,go_sem_proc]) (by simp only [go_sem,go_sem_proc]) (Nat.le_refl _) ?_
        simp only [go_sem,fm2,go_sem_proc]
        exact ⟨2*bs,by omega,by omega,Fit1.of_eq rfl,rfl⟩
       ·have g3:(((a+bs:Nat):Int)<(n:Int))=False:=by simp;omega
        have e1:D++blk ks bs R=blk ks (2*bs) L:=by rw [i1,blk_small ks hb hR2]
        simp only [go_sem,← ha,g2,fab,g3,e1,fm2,go_sem_proc]
        exact ⟨2*bs,by omega,by omega,Fit1.of_eq rfl,rfl⟩
      ·have g2:(((a+2*bs:Nat):Int)≤(n:Int))=True:=by simp;omega
       have wd2:∀ q,q ∈ (R.drop bs).take bs→WK ks q:=fun q hq=>wd q (List.mem_of_mem_take hq)
       have st2:Srt ks (sortF ks ((R.drop bs).take bs)):=sortF_srt ks (WK ks) O _ wd2
       have bl2:(blk ks bs (R.drop (2*bs))).length=R.length-2*bs:=by rw [blk_len ks hb _ _ (Nat.le_refl _),List.length_drop]
       have S:=sym_good ks hk _ D (sortF ks (R.take bs)) (sortF ks ((R.drop bs).take bs)) (blk ks bs (R.drop (2*bs))) (Nat.le_refl _) (by rw [sortF_len,List.length_take];omega) (by rw [sortF_len,List.length_take,List.length_drop];omega) (by simp only [List.length_append,sortF_len,List.length_take,List.length_drop,bl2];omega) wt (fun q hq=>wd2 q ((sortF_mem ks _ q).1 hq)) st1 st2
       rw [sortF_parts O (fun q hq=>i3 q (List.mem_of_mem_take hq)) wd2,take_two] at S
       rw [show (D++sortF ks (R.take bs)++sortF ks ((R.drop bs).take bs)++blk ks bs (R.drop (2*bs))).length=n by simp only [List.length_append,sortF_len,List.length_take,List.length_drop,bl2];omega,sortF_len,sortF_len,List.length_take,List.length_take,List.length_drop,Nat.min_eq_left (by omega),Nat.min_eq_left (by omega),← ha,show a+bs+bs=a+2*bs by omega] at S
       have e1:D++blk ks bs R=D++sortF ks (R.take bs)++sortF ks ((R.drop bs).take bs)++blk ks bs (R.drop (2*bs)):=by
        rcases Nat.eq_or_lt_of_le hR with h | h
        ·rw [blk_two ks hb (by omega)];simp only [List.append_assoc]
        ·rw [blk_two ks hb (by omega)];simp only [List.append_assoc]
       have f4:IntKind.i64.wrap (((a+2*bs:Nat):Int)+((2*bs:Nat):Int))=((a+2*bs+2*bs:Nat):Int):=by rw [wrap_id (by omega) (by omega)];omega
       have e2:blk ks (2*bs) L=D++sortF ks (R.take (2*bs))++blk ks (2*bs) (R.drop (2*bs)):=by rw [i1,blk_step ks (by omega) (by omega),List.append_assoc]
       have e3:(D++sortF ks (R.take (2*bs))).length=a+2*bs:=by rw [List.length_append,sortF_len,List.length_take];omega
       simp only [go_sem,← ha,g2,fab,e1,go_sem_proc]
       refine Cl.frame TT 4000 [0] S rfl (by simp only [go_sem,orderC,go_sem_proc]) (by simp only [go_sem,go_sem_proc]) (Nat.le_refl _) ?_
       simp only [go_sem,fm,f4,go_sem_proc]
       exact ⟨(D++sortF ks (R.take (2*bs)),R.drop (2*bs)),by simp only [List.length_drop];omega,⟨e2,by simp only [List.length_drop,e3];omega,fun q hq=>i3 q (List.mem_of_mem_drop hq)⟩,⟨Fit1.of_eq (by simp only [e3]),Fit1.of_eq (by simp only [e3])⟩,rfl⟩
    ·have f1:((bs:Int)<(n:Int))=False:=by simp;omega
     rw [blk_small ks hb (by omega),← hZ]
     simp only [go_sem,f1,go_sem_proc]
  ·have g1:(((a+20:Nat):Int)≤(n:Int))=True:=by simp;omega
   have S:=insertion_good ks hk D (R.take 20) (R.drop 20) (by rw [List.append_assoc,List.take_append_drop,List.length_append];omega) fun q hq=>i3 q (List.mem_of_mem_take hq)
   rw [show (D++R.take 20++R.drop 20)=D++R by rw [List.append_assoc,List.take_append_drop],show (D++R).length=n by rw [List.length_append];omega,show (D++R.take 20).length=a+20 by rw [List.length_append,List.length_take];omega,← ha] at S
   have f4:IntKind.i64.wrap (((a+20:Nat):Int)+20)=((a+20+20:Nat):Int):=by rw [wrap_id (by omega) (by omega)];omega
   have e3:(D++sortF ks (R.take 20)).length=a+20:=by rw [List.length_append,sortF_len,List.length_take];omega
   simp only [go_sem,← ha,g1,go_sem_proc]
   refine Cl.frame TT 4000 [0] S rfl (by simp only [go_sem,orderC,go_sem_proc]) (by simp only [go_sem,go_sem_proc]) (Nat.le_refl _) ?_
   simp only [go_sem,f4,go_sem_proc]
   exact ⟨(D++sortF ks (R.take 20),R.drop 20),by simp only [List.length_drop];omega,⟨by simp only;rw [i1,blk_step ks (by omega) (by omega),List.append_assoc],by simp only [List.length_drop,e3];omega,fun q hq=>i3 q (List.mem_of_mem_drop hq)⟩,⟨Fit1.of_eq (by simp only [e3]),Fit1.of_eq (by simp only [e3])⟩,rfl⟩
theorem sortStable_good (ks:List Key) (hk:ks.length≤1000) (L:List Keyed) (hl:L.length≤10000) (hW:∀ q,q ∈ L→WK ks q) :
  Good Tryz.prog 32 [.sl 0 0 L.length,.c (orderC ks)] [krow L] (.tup []) [krow (sortF ks L)]:=by
 refine Good.of_vmQ TT 4000 Tryz.func32 rfl rfl ?_
 unfold Tryz.f32
 simp only [go_sem,orderC,go_sem_proc]
 refine Cl.frame TT 4000 [0] (stable_good ks hk L hl hW) rfl (by simp only [go_sem,orderC,go_sem_proc]) (by simp only [go_sem,go_sem_proc]) (Nat.le_refl _) ?_
 simp only [go_sem,go_sem_proc]
end Go.Ev
end
section
open Go Go.Proofs Go.RowKit
namespace Go.Ev
theorem cut_more {α:Type} {n:Nat} (hn:1≤n) {r:List α} (h:n<r.length):cutF n r.length r=r.take n :: cutF n (r.drop n).length (r.drop n):=by
 obtain ⟨k,hk⟩:∃ k,r.length=k+1:=⟨r.length-1,by omega⟩
 rw [show cutF n r.length r=cutF n (k+1) r by rw [hk],cutF,if_neg (by omega),show min n r.length=n by omega,cutF_more n hn k (r.drop n).length _ (by rw [List.length_drop];omega) (Nat.le_refl _)]
theorem cut_last {α:Type} {n:Nat} {r:List α} (h0:0<r.length) (h:r.length≤n):cutF n r.length r=[r]:=by
 obtain ⟨k,hk⟩:∃ k,r.length=k+1:=⟨r.length-1,by omega⟩
 rw [show cutF n r.length r=cutF n (k+1) r by rw [hk],cutF,if_neg (by omega),show min n r.length=r.length by omega,List.take_length,List.drop_length]
 cases k <;> rfl
@[go_sem] def rucell (L:List (List Keyed)):List CV:=[runsC L]
theorem pieces_keyed (l:List Keyed) (n:Nat) (hl:l.length≤10000) (hn:1≤n) (hn2:n≤9223372036854775807) :
  Good Tryz.prog 30 [.c (.lst 2 false (l.map kcell)),cI n] [] (.c (.lst 1 false ((cutF n l.length l).map kscell))) []:=by
 obtain ⟨Z,hZ⟩:∃ Z,Z=cutF n l.length l:=⟨_,rfl⟩
 rw [← hZ]
 refine Good.of_vmQ TT 4000 Tryz.func30 rfl rfl ?_
 unfold Tryz.f30
 simp only [go_sem,go_sem_proc]
 refine Lp.atP TT 4000 0 (Nat.le_of_ble_eq_true rfl) [true,false,false,false,false,true,true,true,true,true,true,true,true,true,true,true,true,true,true] (fun s:List Keyed × List (List Keyed)=>s.1.length) (fun s=>s.1.length+s.2.length≤l.length∧Z=s.2++cutF n s.1.length s.1) (fun s=>[(0,.c (.lst 2 false (s.1.map kcell))),(4,.dead),(5,.sl 0 0 s.2.length)]) (fun s=>[.rows 1 61 (s.2.map kscell)]) [1] ((l,[])) (⟨by simp,by simpa using hZ⟩) ?_ ?_
 ·simp only [go_sem,go_sem_proc]
  first | done | rfl
 ·rintro ⟨r,D⟩ ⟨i1,i2⟩
  simp only at i1 i2
  have hall:(D.map kscell).all (fun y=>y.length == 1)=true:=List.all_eq_true.2 fun y hy=>by
   obtain ⟨z,_,rfl⟩:=List.mem_map.1 hy
   rfl
  have hb24:(D.length+1)*24≤140737488355328:=by omega
  rcases Nat.lt_or_ge n r.length with h | h
  ·have g0:((n:Int)<(r.length:Int))=True:=by simp;omega
   rw [cut_more hn h] at i2
   have hnl:n≤r.length:=by omega
   have hdk:List.take (r.length-n) (List.drop n r)=List.drop n r:=List.take_of_length_le (by simp)
   have hkr:n+(r.length-n)≤r.length:=by omega
   simp only [go_sem,List.length_map,g0,hnl,hall,Nat.zero_add,Nat.sub_zero,← List.map_drop,← List.map_take,hdk,hkr,hb24,Nat.le_refl,List.take_length,go_sem_proc]
   exact ⟨(r.drop n,D++[r.take n]),[2],by simp only [List.length_drop];omega,⟨by simp only [List.length_drop,List.length_append,List.length_singleton];omega,by simp only;rw [i2,List.append_assoc];rfl⟩,by kernel_rfl,⟨Fit1.of_eq rfl,Fit1.of_eq (congrArg (AV.sl 0 0) (by simp))⟩,by simp only [List.map_append,List.map_cons,List.map_nil];rfl⟩
  ·have g0:((n:Int)<(r.length:Int))=False:=by simp;omega
   rcases Nat.eq_zero_or_pos r.length with h0 | h0
   ·have g1:((0:Int)<(r.length:Int))=False:=by simp [h0]
    rw [h0,cutF,List.append_nil] at i2
    have hk5:List.take D.length (List.map kscell D)=List.map kscell D:=List.take_of_length_le (by simp)
    simp only [go_sem,List.length_map,g0,g1,hk5,i2,Nat.zero_add,Nat.le_refl,go_sem_proc]
    first | done | exact Le.refl _
   ·have g1:((0:Int)<(r.length:Int))=True:=by simp;omega
    rw [cut_last h0 h] at i2
    have hk5:List.take (D++[r]).length (List.map kscell (D++[r]))=List.map kscell (D++[r]):=List.take_of_length_le (by simp)
    have hap:List.map kscell D++[[CV.lst 2 false (List.map kcell r)]]=List.map kscell (D++[r]):=by rw [List.map_append];rfl
    have hll:D.length+1≤(D++[r]).length:=by simp
    rw [show (D++[r]).length=D.length+1 by simp] at hk5
    simp only [go_sem,List.length_map,g0,g1,hall,Nat.zero_add,hb24,hap,hll,hk5,← i2,go_sem_proc]
    rw [if_pos (by rw [i2];exact hll)]
    rw [i2,hk5]
    exact ⟨by simp only [go_sem,go_sem_proc],Le.refl _⟩
theorem pieces_runs (l:List (List Keyed)) (n:Nat) (hl:l.length≤10000) (hn:1≤n) (hn2:n≤9223372036854775807) :
  Good Tryz.prog 33 [.c (.lst 1 false (l.map kscell)),cI n] [] (.c (.lst 1 false ((cutF n l.length l).map rucell))) []:=by
 obtain ⟨Z,hZ⟩:∃ Z,Z=cutF n l.length l:=⟨_,rfl⟩
 rw [← hZ]
 refine Good.of_vmQ TT 4000 Tryz.func33 rfl rfl ?_
 unfold Tryz.f33
 simp only [go_sem,go_sem_proc]
 refine Lp.atP TT 4000 0 (Nat.le_of_ble_eq_true rfl) [true,false,false,false,false,true,true,true,true,true,true,true,true,true,true,true,true,true,true] (fun s:List (List Keyed) × List (List (List Keyed))=>s.1.length) (fun s=>s.1.length+s.2.length≤l.length∧Z=s.2++cutF n s.1.length s.1) (fun s=>[(0,.c (.lst 1 false (s.1.map kscell))),(4,.dead),(5,.sl 0 0 s.2.length)]) (fun s=>[.rows 1 66 (s.2.map rucell)]) [1] ((l,[])) (⟨by simp,by simpa using hZ⟩) ?_ ?_
 ·simp only [go_sem,go_sem_proc]
  first | done | rfl
 ·rintro ⟨r,D⟩ ⟨i1,i2⟩
  simp only at i1 i2
  have hall:(D.map rucell).all (fun y=>y.length == 1)=true:=List.all_eq_true.2 fun y hy=>by
   obtain ⟨z,_,rfl⟩:=List.mem_map.1 hy
   rfl
  have hb24:(D.length+1)*24≤140737488355328:=by omega
  rcases Nat.lt_or_ge n r.length with h | h
  ·have g0:((n:Int)<(r.length:Int))=True:=by simp;omega
   rw [cut_more hn h] at i2
   have hnl:n≤r.length:=by omega
   have hdk:List.take (r.length-n) (List.drop n r)=List.drop n r:=List.take_of_length_le (by simp)
   have hkr:n+(r.length-n)≤r.length:=by omega
   simp only [go_sem,List.length_map,g0,hnl,hall,Nat.zero_add,Nat.sub_zero,← List.map_drop,← List.map_take,hdk,hkr,hb24,Nat.le_refl,List.take_length,go_sem_proc]
   exact ⟨(r.drop n,D++[r.take n]),[2],by simp only [List.length_drop];omega,⟨by simp only [List.length_drop,List.length_append,List.length_singleton];omega,by simp only;rw [i2,List.append_assoc];rfl⟩,by kernel_rfl,⟨Fit1.of_eq rfl,Fit1.of_eq (congrArg (AV.sl 0 0) (by simp))⟩,by simp only [List.map_append,List.map_cons,List.map_nil];rfl⟩
  ·have g0:((n:Int)<(r.length:Int))=False:=by simp;omega
   rcases Nat.eq_zero_or_pos r.length with h0 | h0
   ·have g1:((0:Int)<(r.length:Int))=False:=by simp [h0]
    rw [h0,cutF,List.append_nil] at i2
    have hk5:List.take D.length (List.map rucell D)=List.map rucell D:=List.take_of_length_le (by simp)
    simp only [go_sem,List.length_map,g0,g1,hk5,i2,Nat.zero_add,Nat.le_refl,go_sem_proc]
    first | done | exact Le.refl _
   ·have g1:((0:Int)<(r.length:Int))=True:=by simp;omega
    rw [cut_last h0 h] at i2
    have hk5:List.take (D++[r]).length (List.map rucell (D++[r]))=List.map rucell (D++[r]):=List.take_of_length_le (by simp)
    have hap:List.map rucell D++[[CV.lst 1 false (List.map kscell r)]]=List.map rucell (D++[r]):=by rw [List.map_append];rfl
    have hll:D.length+1≤(D++[r]).length:=by simp
    rw [show (D++[r]).length=D.length+1 by simp] at hk5
    simp only [go_sem,List.length_map,g0,g1,hall,Nat.zero_add,hb24,hap,hll,hk5,← i2,go_sem_proc]
    rw [if_pos (by rw [i2];exact hll)]
    rw [i2,hk5]
    exact ⟨by simp only [go_sem,go_sem_proc],Le.refl _⟩
theorem clone_keyed (x:Keyed) (l:List Keyed) (h:l.length≤1000000):Good Tryz.prog 31 [.c (keyedC (x :: l))] [] (.sl 0 0 (x :: l).length) [.rows 2 69 ((x :: l).map kcell)]:=by
 have hallr:∀ l:List Keyed,(l.map kcell).all (fun y=>y.length == 2)=true:=fun l=>List.all_eq_true.2 fun y hy=>by
  obtain ⟨z,_,rfl⟩:=List.mem_map.1 hy
  rfl
 refine Good.of_vmA TT 4000 [2] Tryz.func31 rfl rfl ?_
 unfold Tryz.f31
 simp only [go_sem,keyedC,hallr,go_sem_proc]
 exact ⟨by omega,by kernel_rfl,Le.of_eq (by rw [Nat.zero_add])⟩
end Go.Ev
end
section
open Go Go.Proofs
namespace Go.Ev
def cd (a b:Int):Int:=(a+b-1) / b
theorem cd_le {n d:Int} (hn:0≤n) (hd:1≤d):cd n d≤n:=by
 unfold cd
 rcases Int.lt_or_le 0 n with h | h
 ·have:n+d-1≤n*d:=by
   have:(n-1)*(d-1) ≥ 0:=Int.mul_nonneg (by omega) (by omega)
   have h2:(n-1)*(d-1)=n*d-n-d+1:=by rw [Int.sub_mul,Int.mul_sub];omega
   omega
  exact Int.le_trans (Int.ediv_le_ediv (by omega) this) (by rw [Int.mul_ediv_cancel _ (by omega)];omega)
 ·have:n=0:=by omega
  subst this
  rw [Int.ediv_eq_zero_of_lt (by omega) (by omega)];omega
theorem cd_nonneg {n d:Int} (hn:0≤n) (hd:1≤d):0≤cd n d:=Int.ediv_nonneg (by omega) (by omega)
theorem cd_lt {n d:Int} (hn:1<n) (hd:2≤d):cd n d<n:=by
 unfold cd
 have:n+d-1<n*d:=by
  have h1:(n-1)*(d-1) ≥ 1*1:=Int.mul_le_mul (by omega) (by omega) (by omega) (by omega)
  have h2:(n-1)*(d-1)=n*d-n-d+1:=by rw [Int.sub_mul,Int.mul_sub];omega
  omega
 exact Int.ediv_lt_of_lt_mul (by omega) this
def npf (f:Int):Nat→Int→Int
 | 0,_=>0
 | k+1,l=>if 1<l then 1+npf f k (cd l f) else 0
def np (f l:Int):Int:=npf f l.toNat l
theorem npf_more {f:Int} (hf:2≤f):∀ (k j:Nat) (l:Int),l.toNat≤k→k≤j→npf f k l=npf f j l
 | 0,j,l,h,_=>by
  cases j with
  | zero=>rfl
  | succ j=>simp only [npf];rw [if_neg (by omega)]
 | k+1,0,l,h,hj=>by omega
 | k+1,j+1,l,h,hj=>by
  simp only [npf]
  split
  ·rename_i h1
   have:=cd_lt h1 hf
   rw [npf_more hf k j _ (by omega) (by omega)]
  ·rfl
theorem np_step {f l:Int} (hf:2≤f) (hl:1<l):np f l=1+np f (cd l f):=by
 unfold np
 have:=cd_lt hl hf
 have h0:=cd_nonneg (n:=l) (d:=f) (by omega) (by omega)
 obtain ⟨k,hk⟩:∃ k,l.toNat=k+1:=⟨l.toNat-1,by omega⟩
 rw [hk]
 simp only [npf]
 rw [if_pos hl,npf_more hf (cd l f).toNat k _ (by omega) (by omega)]
theorem np_stop {f l:Int} (hl:¬ 1<l):np f l=0:=by
 unfold np
 cases l.toNat with
 | zero=>rfl
 | succ k=>simp only [npf];rw [if_neg hl]
theorem npf_nonneg (f:Int):∀ (k:Nat) (l:Int),0≤npf f k l
 | 0,_=>by simp [npf]
 | k+1,l=>by simp only [npf];have:=npf_nonneg f k (cd l f);split <;> omega
theorem np_nonneg (f l:Int):0≤np f l:=npf_nonneg f _ l
theorem np_le {f:Int} (hf:2≤f):∀ (k:Nat) (l:Int),l.toNat≤k→0≤l→np f l≤l
 | 0,l,h,h0=>by rw [np_stop (by omega)];exact h0
 | k+1,l,h,h0=>by
  rcases Int.lt_or_le 1 l with h1 | h1
  ·rw [np_step hf h1]
   have h2:=cd_lt h1 hf
   have:=np_le hf k (cd l f) (by omega) (cd_nonneg (by omega) (by omega))
   omega
  ·rw [np_stop (by omega)];exact h0
end Go.Ev
end
section
open Go Go.Proofs Go.RowKit
namespace Go.Ev
theorem cut_ind {α:Type} {n:Nat} (hn:1≤n) {p:List α→List (List α)→Prop} (h0:p [] []) (h1:∀ r:List α,0<r.length→r.length≤n→p r [r]) (h2:∀ r:List α,n<r.length→p (r.drop n) (cutF n (r.drop n).length (r.drop n))→p r (r.take n :: cutF n (r.drop n).length (r.drop n))):∀ (k:Nat) (r:List α),r.length≤k→p r (cutF n r.length r)
 | 0,r,h=>by
  obtain rfl:r=[]:=List.eq_nil_of_length_eq_zero (by omega)
  exact h0
 | k+1,r,h=>by
  rcases Nat.lt_or_ge n r.length with g | g
  ·rw [cut_more hn g]
   exact h2 r g (cut_ind hn h0 h1 h2 k _ (by rw [List.length_drop];omega))
  ·rcases Nat.eq_zero_or_pos r.length with e | e
   ·obtain rfl:r=[]:=List.eq_nil_of_length_eq_zero e
    exact h0
   ·rw [cut_last e g]
    exact h1 r e g
theorem cut_flat {α:Type} {n:Nat} (hn:1≤n) (l:List α):(cutF n l.length l).flatten=l:=
 cut_ind hn (p:=fun r c=>c.flatten=r) rfl (fun r _ _=>by simp) (fun r _ h=>by rw [List.flatten_cons,h,List.take_append_drop]) _ l (Nat.le_refl _)
theorem cut_parts {α:Type} {n:Nat} (hn:1≤n) (l:List α):∀ q,q ∈ cutF n l.length l→0<q.length∧∀ x,x ∈ q→x ∈ l:=
 cut_ind hn (p:=fun r c=>∀ q,q ∈ c→0<q.length∧∀ x,x ∈ q→x ∈ r) (fun q h=>by simp at h) (fun r h _ q hq=>by rw [List.mem_singleton.1 hq];exact ⟨h,fun x hx=>hx⟩) (fun r h ih q hq=>by
  rcases List.mem_cons.1 hq with e | e
  ·rw [e];exact ⟨by rw [List.length_take];omega,fun x hx=>List.mem_of_mem_take hx⟩
  ·exact ⟨(ih q e).1,fun x hx=>List.mem_of_mem_drop ((ih q e).2 x hx)⟩) _ l (Nat.le_refl _)
theorem cd_more {k n:Int} (hn:1≤n):cd (k+n) n=cd k n+1:=by
 unfold cd
 rw [show k+n+n-1=k+n-1+n*1 by omega,Int.add_mul_ediv_left _ _ (by omega)]
theorem cd_one {k n:Int} (h:1≤k) (g:k≤n):cd k n=1:=by
 unfold cd
 rw [show k+n-1=k-1+n*1 by omega,Int.add_mul_ediv_left _ _ (by omega),Int.ediv_eq_zero_of_lt (by omega) (by omega)];rfl
theorem cd_zero {n:Int} (h:1≤n):cd 0 n=0:=Int.ediv_eq_zero_of_lt (by omega) (by omega)
theorem cut_cd {α:Type} {n:Nat} (hn:1≤n) (l:List α):((cutF n l.length l).length:Int)=cd l.length n:=
 cut_ind hn (p:=fun r c=>(c.length:Int)=cd r.length n) (by rw [show ((([]:List α).length:Nat):Int)=0 from rfl,cd_zero (by omega)];rfl) (fun r h g=>by rw [cd_one (by omega) (by omega)];rfl) (fun r h ih=>by
  rw [List.length_cons]
  rw [List.length_drop] at ih
  have:=cd_more (k:=((r.length-n:Nat):Int)) (n:=(n:Int)) (by omega)
  rw [show ((r.length-n:Nat):Int)+n=r.length by omega] at this
  rw [this,← ih,List.length_drop];rfl) _ l (Nat.le_refl _)
section
variable {ks:List Key} {W:Keyed→Prop} (O:IsOrd ks W)
include O
theorem flat_one:∀ P:List (List Keyed),(∀ h,h ∈ P→∀ q,q ∈ h→W q)→Eqv ks W (P.map (sortF ks)).flatten P.flatten
 | [],_=>Eqv.refl _
 | p :: P,hw=>by
  rw [List.map_cons,List.flatten_cons,List.flatten_cons]
  exact (sortF_eqv O p (hw p (List.mem_cons_self ..))).app (flat_one P fun h hh=>hw h (List.mem_cons_of_mem _ hh))
theorem flat_two:∀ C:List (List (List Keyed)),(∀ Q,Q ∈ C→∀ h,h ∈ Q→∀ q,q ∈ h→W q)→Eqv ks W (C.map fun Q=>sortF ks Q.flatten).flatten C.flatten.flatten
 | [],_=>Eqv.refl _
 | Q :: C,hw=>by
  rw [List.map_cons,List.flatten_cons,List.flatten_cons,List.flatten_append]
  refine (sortF_eqv O Q.flatten fun q hq=>?_).app (flat_two C fun h hh=>hw h (List.mem_cons_of_mem _ hh))
  obtain ⟨h,hh,hq2⟩:=List.mem_flatten.1 hq
  exact hw Q (List.mem_cons_self ..) h hh q hq2
end
structure RunsOK (ks:List Key) (Z:List Keyed) (N:Nat) (R:List (List Keyed)):Prop where
 w:∀ h,h ∈ R→∀ q,q ∈ h→WK ks q
 s:∀ h,h ∈ R→Srt ks h
 z:sortF ks R.flatten=Z
 n:R.flatten.length=N
theorem flat_w {ks:List Key} {R:List (List Keyed)} (h:∀ h,h ∈ R→∀ q,q ∈ h→WK ks q):∀ q,q ∈ R.flatten→WK ks q:=fun q hq=>by
 obtain ⟨x,hx,hq2⟩:=List.mem_flatten.1 hq
 exact h x hx q hq2
theorem runs_first (ks:List Key) (l:List Keyed) {n:Nat} (hn:1≤n) (hl:∀ q,q ∈ l→WK ks q):RunsOK ks (sortF ks l) l.length ((cutF n l.length l).map (sortF ks)):=by
 have O:=isOrd ks
 have hp:=cut_parts hn l
 have hf:=cut_flat hn l
 have hw:∀ h,h ∈ cutF n l.length l→∀ q,q ∈ h→WK ks q:=fun h hh q hq=>hl q ((hp h hh).2 q hq)
 have hw2:∀ h,h ∈ (cutF n l.length l).map (sortF ks)→∀ q,q ∈ h→WK ks q:=fun h hh q hq=>by
  obtain ⟨p,hpm,rfl⟩:=List.mem_map.1 hh
  exact hw p hpm q ((sortF_mem ks p q).1 hq)
 have he:=flat_one O _ hw
 rw [hf] at he
 refine ⟨hw2,fun h hh=>?_,sortF_congr O (flat_w hw2) hl he,?_⟩
 ·obtain ⟨p,hpm,rfl⟩:=List.mem_map.1 hh
  exact sortF_srt ks _ O p (hw p hpm)
 ·conv=>rhs;rw [← hf]
  rw [List.length_flatten,List.length_flatten,List.map_map]
  congr 1
  exact List.map_congr_left fun p _=>sortF_len ks p
theorem flat_len (ks:List Key):∀ C:List (List (List Keyed)),(C.map fun Q=>sortF ks Q.flatten).flatten.length=C.flatten.flatten.length
 | []=>rfl
 | Q :: C=>by rw [List.map_cons,List.flatten_cons,List.flatten_cons,List.flatten_append,List.length_append,List.length_append,sortF_len,flat_len ks C]
theorem runs_next (ks:List Key) {Z:List Keyed} {N:Nat} {R:List (List Keyed)} (h:RunsOK ks Z N R) {m:Nat} (hm:1≤m):RunsOK ks Z N ((cutF m R.length R).map fun Q=>sortF ks Q.flatten):=by
 have O:=isOrd ks
 have hp:=cut_parts hm R
 have hf:=cut_flat hm R
 have hw:∀ Q,Q ∈ cutF m R.length R→∀ h,h ∈ Q→∀ q,q ∈ h→WK ks q:=fun Q hQ x hx=>h.w x ((hp Q hQ).2 x hx)
 have hw2:∀ x,x ∈ (cutF m R.length R).map (fun Q=>sortF ks Q.flatten)→∀ q,q ∈ x→WK ks q:=fun x hx q hq=>by
  obtain ⟨Q,hQ,rfl⟩:=List.mem_map.1 hx
  exact flat_w (hw Q hQ) q ((sortF_mem ks _ q).1 hq)
 have he:=flat_two O _ hw
 rw [hf] at he
 refine ⟨hw2,fun x hx=>?_,?_,?_⟩
 ·obtain ⟨Q,hQ,rfl⟩:=List.mem_map.1 hx
  exact sortF_srt ks _ O _ (flat_w (hw Q hQ))
 ·rw [sortF_congr O (flat_w hw2) (flat_w h.w) he];exact h.z
 ·rw [← h.n]
  conv=>rhs;rw [← hf]
  exact flat_len ks _
theorem merge_runs (ks:List Key) {Z:List Keyed} {N:Nat} {R:List (List Keyed)} (h:RunsOK ks Z N R):mergeF ks (tot R) R=Z:=by
 rw [merge_sort ks _ (isOrd ks) (tot R) R rfl h.w h.s];exact h.z
end Go.Ev
end
