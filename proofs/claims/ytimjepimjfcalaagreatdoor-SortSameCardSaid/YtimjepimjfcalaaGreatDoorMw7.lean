import Derived.Test.YtimjepimjfcalaaGreatDoorMs9
import Derived.Test.YtimjepimjfcalaaGreatDoorMs7
set_option linter.all false
set_option maxRecDepth 100000
set_option maxHeartbeats 8000000
section
open Go Go.Proofs Go.RowKit
namespace Go.Ev
theorem bs_inj {s t:ByteArray} (h:s.toList=t.toList):s=t:=by
 rw [Go.ByteArray.toList_eq,Go.ByteArray.toList_eq] at h
 exact ByteArray.ext (Array.toList_inj.1 h)
theorem same_eq {a b:Val} (h:a.same b=true):a=b:=by
 obtain ⟨h1,h2,h3⟩:=(same_iff a b).1 h
 cases a;cases b
 simp only at h1 h2 h3
 rw [h1,h2,bs_inj h3]
theorem cmpRows_anti:∀ l m:List Val,cmpRows m l =-cmpRows l m
 | [],[]=>rfl
 | [],_ :: _=>rfl
 | _ :: _,[]=>rfl
 | a :: l,b :: m=>by
  have h:=cmpRows_anti l m
  have h1:=cmp_anti a b
  rw [cmpRows,cmpRows,h]
  by_cases h0:a.cmp b=0
  ·rw [if_neg (by omega),if_neg (by omega)]
  ·rw [if_pos (by omega),if_pos (by omega)];exact h1
theorem cmpRows_zero:∀ l m:List Val,cmpRows l m=0→l=m
 | [],[],_=>rfl
 | [],_ :: _,h=>by simp [cmpRows] at h
 | _ :: _,[],h=>by simp [cmpRows] at h
 | a :: l,b :: m,h=>by
  rw [cmpRows] at h
  by_cases h0:a.cmp b=0
  ·rw [if_neg (by omega)] at h
   rw [same_eq ((cmp_same0 a b).1 h0),cmpRows_zero l m h]
  ·rw [if_pos (by omega)] at h
   exact absurd h h0
theorem cmpRows_trans:∀ c b a:List Val,0≤cmpRows b a→0≤cmpRows c b→0≤cmpRows c a
 | [],[],a,h,_=>h
 | [],_ :: _,a,_,g=>by simp [cmpRows] at g
 | z :: c,[],[],_,_=>by simp [cmpRows]
 | z :: c,[],x :: a,h,_=>by simp [cmpRows] at h
 | z :: c,y :: b,[],_,_=>by simp [cmpRows]
 | z :: c,y :: b,x :: a,h,g=>by
  have ih:=cmpRows_trans c b a
  obtain ⟨t1,t2,t3,t4⟩:=cmp_tri z y x
  rw [cmpRows] at h g ⊢
  by_cases h0:y.cmp x=0
  ·have e:=t4 h0
   rw [if_neg (by omega)] at h
   by_cases g0:z.cmp y=0
   ·rw [if_neg (by omega)] at g ⊢
    exact ih h g
   ·rw [if_pos (by omega)] at g ⊢
    omega
  ·rw [if_pos (by omega)] at h
   by_cases g0:z.cmp y=0
   ·have e:=t3 g0
    rw [if_pos (by omega)];omega
   ·rw [if_pos (by omega)] at g
    have:=t2 (by omega) (by omega)
    rw [if_pos (by omega)];omega
def leR (x y:List Val):Bool:=!decide (cmpRows y x<0)
def msF:Nat→List (List Val)→List (List Val)
 | 0,l=>l
 | k+1,l=>if l.length<2 then l else List.merge (msF k (l.take (l.length / 2))) (msF k (l.drop (l.length / 2))) leR
theorem msF_perm:∀ (k:Nat) (l:List (List Val)),(msF k l).Perm l
 | 0,l=>List.Perm.refl _
 | k+1,l=>by
  rw [msF]
  split
  ·exact List.Perm.refl _
  ·refine (List.merge_perm_append leR).trans ?_
   have:=(msF_perm k (l.take (l.length / 2))).append (msF_perm k (l.drop (l.length / 2)))
   rwa [List.take_append_drop] at this
theorem msF_sorted:∀ (k:Nat) (l:List (List Val)),l.length≤k+1→(msF k l).Pairwise fun a b=>leR a b=true
 | 0,l,h=>by
  match l,h with
  | [],_=>exact List.Pairwise.nil
  | [x],_=>exact List.pairwise_singleton _ _
 | k+1,l,h=>by
  rw [msF]
  split
  ·match l with
   | []=>exact List.Pairwise.nil
   | [x]=>exact List.pairwise_singleton _ _
   | x :: y :: l=>rename_i h2;simp only [List.length_cons] at h2;omega
  ·refine List.pairwise_merge (fun a b c g1 g2=>?_) (fun a b=>?_) _ _ (msF_sorted k _ (by rw [List.length_take];omega)) (msF_sorted k _ (by rw [List.length_drop];omega))
   ·simp only [leR,Bool.not_eq_true',decide_eq_false_iff_not,Int.not_lt] at *
    exact cmpRows_trans c b a g1 g2
   ·simp only [leR,Bool.or_eq_true,Bool.not_eq_true',decide_eq_false_iff_not,Int.not_lt]
    have:=cmpRows_anti a b
    omega
theorem msF_bag {a b:List (List Val)} (h:a.Perm b):msF a.length a=msF b.length b:=by
 refine List.Perm.eq_of_pairwise (le:=fun a b=>leR a b=true) (fun x y _ _ g1 g2=>?_) (msF_sorted _ a (by omega)) (msF_sorted _ b (by omega)) (((msF_perm _ a).trans h).trans (msF_perm _ b).symm)
 simp only [leR,Bool.not_eq_true',decide_eq_false_iff_not,Int.not_lt] at g1 g2
 have:=cmpRows_anti x y
 exact cmpRows_zero x y (by omega)
theorem msF_more:∀ (k j:Nat) (l:List (List Val)),l.length≤k+1→l.length≤j+1→msF k l=msF j l
 | 0,0,l,_,_=>rfl
 | 0,j+1,l,h,_=>by rw [msF,msF,if_pos (by omega)]
 | k+1,0,l,_,h=>by rw [msF,msF,if_pos (by omega)]
 | k+1,j+1,l,h,g=>by
  rw [msF,msF]
  split
  ·rfl
  ·rw [msF_more k j _ (by rw [List.length_take];omega) (by rw [List.length_take];omega),msF_more k j (l.drop _) (by rw [List.length_drop];omega) (by rw [List.length_drop];omega)]
theorem msF_len (l:List (List Val)) (k:Nat):(msF k l).length=l.length:=(msF_perm k l).length_eq
theorem ref_Sorted:∀ (k:Nat) (l:List (List Val)),l.length≤k→l.length≤10000→Good Tryz.prog 37 [.c (rowsC l)] [] (.c (rowsC (msF l.length l))) []:=by
 intro k
 induction k with
 | zero =>
  intro l hk hl
  obtain rfl:l=[]:=List.eq_nil_of_length_eq_zero (by omega)
  refine Good.of_vmQ TT 4000 Tryz.func37 rfl rfl ?_
  unfold Tryz.f37
  simp only [go_sem,rowsC,go_sem_proc]
  first | done | exact Le.refl _ | trace_state
 | succ k ih =>
  intro l hk hl
  obtain ⟨Z,hZ⟩:∃ Z,Z=msF l.length l:=⟨_,rfl⟩
  have hZl:Z.length=l.length:=by rw [hZ,msF_len]
  have hal1:∀ x:List (List Val),(x.map fun r=>[rowC r]).all (fun y=>y.length == 1)=true:=fun x=>List.all_eq_true.2 fun y hy=>by
   obtain ⟨z,_,rfl⟩:=List.mem_map.1 hy
   rfl
  have hb24:l.length*24≤140737488355328:=by omega
  rcases Nat.lt_or_ge l.length 2 with h2 | h2
  ·have g1:((l.length:Int)<2)=True:=by simp;omega
   have hZe:Z=l:=by
    rw [hZ]
    cases hh:l.length with
    | zero=>rfl
    | succ n=>rw [msF,if_pos h2]
   rw [← hZ,hZe]
   have hk5:List.take l.length (l.map fun r=>[rowC r])=l.map fun r=>[rowC r]:=List.take_of_length_le (by simp)
   simp only [rowC] at hal1 hk5
   refine Good.of_vmQ TT 4000 Tryz.func37 rfl rfl ?_
   unfold Tryz.f37
   simp only [go_sem,rowsC,List.length_map,g1,hal1,hb24,hk5,Nat.zero_add,Nat.le_refl,go_sem_proc]
  ·have g1:((l.length:Int)<2)=False:=by simp;omega
   obtain ⟨h,hh⟩:∃ h,h=l.length / 2:=⟨_,rfl⟩
   have hq:IntKind.i64.wrap ((l.length:Int).tdiv 2)=(h:Int):=by
    rw [Int.tdiv_eq_ediv_of_nonneg (by omega),wrap_id (by omega) (by omega)];omega
   have i1:=ih (l.take h) (by rw [List.length_take];omega) (by rw [List.length_take];omega)
   have i2:=ih (l.drop h) (by rw [List.length_drop];omega) (by rw [List.length_drop];omega)
   have hZm:Z=List.merge (msF (l.take h).length (l.take h)) (msF (l.drop h).length (l.drop h)) leR:=by
    obtain ⟨n,hn⟩:∃ n,l.length=n+1:=⟨l.length-1,by omega⟩
    rw [hZ,hn,msF,if_neg (by omega),← hh,msF_more n (l.take h).length (l.take h) (by rw [List.length_take];omega) (by omega),msF_more n (l.drop h).length (l.drop h) (by rw [List.length_drop];omega) (by omega)]
   have hal:(msF (l.take h).length (l.take h)).length+(msF (l.drop h).length (l.drop h)).length=l.length:=by
    rw [msF_len,msF_len,List.length_take,List.length_drop];omega
   have hhl:h≤l.length:=by omega
   have hdk:List.take (l.length-h) (List.drop h l)=List.drop h l:=List.take_of_length_le (by simp)
   have hkr:h+(l.length-h)≤l.length:=by omega
   rw [← hZ]
   generalize msF (l.take h).length (l.take h)=a at *
   generalize msF (l.drop h).length (l.drop h)=b at *
   refine Good.of_vmQ TT 4000 Tryz.func37 rfl rfl ?_
   unfold Tryz.f37
   simp only [go_sem,rowsC,List.length_map,g1,hq,hhl,Nat.zero_add,Nat.sub_zero,go_sem_proc]
   refine Cl.pure TT 4000 i1 (by simp only [go_sem,rowsC,List.map_take,go_sem_proc]) rfl ?_
   simp only [go_sem,rowsC,List.length_map,hq,hhl,Nat.zero_add,Nat.sub_zero,hkr,go_sem_proc]
   refine Cl.pure TT 4000 i2 (by simp only [go_sem,rowsC,← List.map_drop,← List.map_take,hdk,List.take_length,go_sem_proc]) rfl ?_
   simp only [go_sem,rowsC,go_sem_proc]
   refine Lp.atP TT 4000 0 (Nat.le_of_ble_eq_true rfl) [false,false,false,true,true,true,false,false,false,false,false,false,false,false,false,false,false,false,false,false,false,false,false,true,true,true,true,true,true,true,true,true,true,true,true,true,true,true,true,true,true,true,true,true,true,true,true,true,true,true,true,true,true,true,true] (fun s:List (List Val) × List (List Val) × List (List Val)=>s.1.length+s.2.1.length) (fun s=>Z=s.2.2++List.merge s.1 s.2.1 leR∧s.1.length+s.2.1.length+s.2.2.length=l.length) (fun s=>[(2,.dead),(3,.c (rowsC s.1)),(4,.c (rowsC s.2.1)),(5,.sl 0 0 s.2.2.length)]) (fun s=>[.rows 1 38 (s.2.2.map rcell)]) [1] ((a,b,[])) (⟨by simpa using hZm,by simpa using hal⟩) ?_ ?_
   ·simp only [go_sem,go_sem_proc]
    first | done | rfl | trace_state
   ·rintro ⟨A,B,O⟩ ⟨k1,k2⟩
    simp only at k1 k2
    have hal1:∀ x:List (List Val),(x.map rcell).all (fun y=>y.length == 1)=true:=fun x=>List.all_eq_true.2 fun y hy=>by
     obtain ⟨z,_,rfl⟩:=List.mem_map.1 hy
     rfl
    have hb24:(O.length+1)*24≤140737488355328:=by omega
    have hfin:Z=O++(A++B)→(O.length+A.length)*24≤140737488355328∧(O.length+A.length+B.length)*24≤140737488355328∧O.length+A.length+B.length≤Z.length∧List.map rcell O++List.map rcell A++List.map rcell B=List.map rcell Z∧List.take (O.length+A.length+B.length) (List.map rcell Z)=List.map rcell Z:=fun h=>by
     refine ⟨by omega,by omega,by rw [h];simp only [List.length_append];omega,by rw [h,List.map_append,List.map_append,List.append_assoc],List.take_of_length_le (by rw [List.length_map,h];simp only [List.length_append];omega)⟩
    have hrc:∀ x:List (List Val),(List.map (fun r=>[CV.lst 3 false (List.map Val.cs r)]) x)=List.map rcell x:=fun x=>rfl
    have hAe:A.length=0→A=[]:=List.eq_nil_of_length_eq_zero
    have hBe:B.length=0→B=[]:=List.eq_nil_of_length_eq_zero
    rcases Nat.eq_zero_or_pos A.length with ha | ha
    ·have g2:((0:Int)<(A.length:Int))=False:=by simp [ha]
     have hz:=hfin (by rw [k1,hAe ha,List.nil_merge,List.nil_append])
     obtain ⟨z1,z2,z3,z4,z5⟩:=hz
     simp only [go_sem,rowsC,List.length_map,g2,hrc,hal1,z1,z2,z3,z4,z5,Nat.zero_add,go_sem_proc]
     simp only [List.length_append,List.length_map]
    ·have g2:((0:Int)<(A.length:Int))=True:=by simp;omega
     rcases Nat.eq_zero_or_pos B.length with hb | hb
     ·have g3:((0:Int)<(B.length:Int))=False:=by simp [hb]
      have hz:=hfin (by rw [k1,hBe hb,List.merge_right,List.append_nil])
      obtain ⟨z1,z2,z3,z4,z5⟩:=hz
      simp only [go_sem,rowsC,List.length_map,g2,g3,hrc,hal1,z1,z2,z3,z4,z5,Nat.zero_add,go_sem_proc]
      simp only [List.length_append,List.length_map]
     ·have g3:((0:Int)<(B.length:Int))=True:=by simp;omega
      obtain ⟨x,hx,_,_,hxd⟩:=getS (l:=A) (j:=0) ha
      obtain ⟨y,hy,_,_,hyd⟩:=getS (l:=B) (j:=0) hb
      rw [List.drop_zero] at hxd hyd
      have k3:List.merge A B leR=if leR x y then x :: List.merge (A.drop 1) B leR else y :: List.merge A (B.drop 1) leR:=by
       conv=>lhs;rw [hxd,hyd,List.cons_merge_cons]
       rw [← hxd,← hyd]
      simp only [go_sem,rowsC,List.length_map,g2,g3,go_sem_proc]
      refine Dr.of TT (by kernel_rfl) [(40,[.c (rowC y),.c (rowC x)],cI (cmpRows y x))] ⟨⟨ref_CompareRows y x,rfl⟩,trivial⟩ ?_
      have k4:leR x y = !decide (cmpRows y x<0):=rfl
      rw [k4] at k3
      generalize cmpRows y x=o at k3 ⊢
      clear k4 hfin hxd hyd
      simp only [go_sem,rowsC,List.length_map,hx,hy,ha,hb,go_sem_proc]
      refine ⟨by omega,by omega,DEnd.of TT 4000 (memOK_quiet rfl) ?_⟩
      have hd:∀ x:List (List Val),List.take (x.length-1) (List.drop 1 x)=List.drop 1 x:=fun x=>List.take_of_length_le (by simp)
      have hO:∀ z:List Val,List.map rcell O++[[CV.lst 3 false (List.map Val.cs z)]]=List.map rcell (O++[z]):=fun z=>by rw [List.map_append];rfl
      by_cases ho:o<0
      ·have ho1:(o<0)=True:=eq_true ho
       rw [decide_eq_true ho,if_neg (by simp)] at k3
       have h1b:1≤B.length:=hb
       simp only [go_sem,ho1,rowsC,List.length_map,hy,hb,hal1,hb24,Nat.zero_add,hO,h1b,Nat.le_refl,← List.map_drop,← List.map_take,List.take_length,hd,go_sem_proc]
       exact ⟨by omega,by omega,(A,B.drop 1,O++[y]),[2],by simp only [List.length_drop];omega,⟨by simp only;rw [k1,k3,List.append_assoc];rfl,by simp only [List.length_drop,List.length_append,List.length_singleton];omega⟩,by kernel_rfl,⟨Fit1.of_eq rfl,Fit1.of_eq rfl,Fit1.of_eq (congrArg (AV.sl 0 0) (by simp))⟩,rfl⟩
      ·have ho1:(o<0)=False:=eq_false ho
       rw [decide_eq_false ho,if_pos (by simp)] at k3
       have h1a:1≤A.length:=ha
       simp only [go_sem,ho1,rowsC,List.length_map,hx,ha,hal1,hb24,Nat.zero_add,hO,h1a,Nat.le_refl,← List.map_drop,← List.map_take,List.take_length,hd,go_sem_proc]
       exact ⟨by omega,by omega,(A.drop 1,B,O++[x]),[2],by simp only [List.length_drop];omega,⟨by simp only;rw [k1,k3,List.append_assoc];rfl,by simp only [List.length_drop,List.length_append,List.length_singleton];omega⟩,by kernel_rfl,⟨Fit1.of_eq rfl,Fit1.of_eq rfl,Fit1.of_eq (congrArg (AV.sl 0 0) (by simp))⟩,rfl⟩
theorem ref_SameBag (a b:List (List Val)) (h:a.Perm b) (hl:b.length≤10000):Good Tryz.prog 15 [.c (rowsC a),.c (rowsC b)] [] (cB true) []:=by
 have ha:=ref_Sorted a.length a (Nat.le_refl _) (by rw [h.length_eq];exact hl)
 have hb:=ref_Sorted b.length b (Nat.le_refl _) hl
 rw [msF_bag h] at ha
 have hs:=sameRows_self (msF b.length b) (by rw [msF_len];omega)
 refine Good.of_vmQ TT 4000 Tryz.func15 rfl rfl ?_
 unfold Tryz.f15
 simp only [go_sem,go_sem_proc]
 refine Cl.pure TT 4000 ha rfl rfl ?_
 simp only [go_sem,go_sem_proc]
 refine Cl.pure TT 4000 hb rfl rfl ?_
 simp only [go_sem,go_sem_proc]
 refine Cl.pure TT 4000 hs rfl rfl ?_
 simp only [go_sem,go_sem_proc]
 first | done | exact Le.refl _
theorem insF_perm (ks:List Key) (s:List Keyed) (p:Keyed):(insF ks s p).Perm (p :: s):=by
 unfold insF
 generalize posF ks (s.map Prod.snd) p.2 s.length=k
 have h1:(s.take k++[p]++s.drop k).Perm (p :: (s.take k++s.drop k)):=by
  rw [List.append_assoc];exact List.perm_middle
 rwa [List.take_append_drop] at h1
theorem foldl_perm (ks:List Key):∀ l s:List Keyed,(l.foldl (insF ks) s).Perm (s++l)
 | [],s=>by rw [List.append_nil];exact List.Perm.refl _
 | p :: l,s=>by
  rw [List.foldl_cons]
  refine (foldl_perm ks l _).trans ?_
  refine ((insF_perm ks s p).append_right l).trans ?_
  exact List.perm_middle.symm
theorem sortF_perm (ks:List Key) (l:List Keyed):(sortF ks l).Perm l:=foldl_perm ks l []
end Go.Ev
end
