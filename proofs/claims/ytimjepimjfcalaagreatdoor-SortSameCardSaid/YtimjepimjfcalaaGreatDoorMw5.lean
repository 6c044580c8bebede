import Derived.Test.YtimjepimjfcalaaGreatDoorMw4
import Derived.Test.YtimjepimjfcalaaGreatDoorMs7
import Derived.Test.YtimjepimjfcalaaGreatDoorMs6
import Derived.Test.YtimjepimjfcalaaGreatDoorMv1
set_option linter.all false
set_option maxRecDepth 100000
set_option maxHeartbeats 8000000
section
open Go Go.Proofs Go.RowKit
namespace Go.Ev
theorem mem_flat_len {α:Type}:∀ (P:List (List α)) (p:List α),p ∈ P→p.length≤P.flatten.length
 | [],_,h=>by simp at h
 | x :: P,p,h=>by
  rw [List.flatten_cons,List.length_append]
  rcases List.mem_cons.1 h with e | e
  ·rw [e];omega
  ·have:=mem_flat_len P p e;omega
theorem mem_flat2 {α:Type}:∀ (C:List (List (List α))) (Q:List (List α)),Q ∈ C→Q.flatten.length≤C.flatten.flatten.length
 | [],_,h=>by simp at h
 | x :: C,Q,h=>by
  rw [List.flatten_cons,List.flatten_append,List.length_append]
  rcases List.mem_cons.1 h with e | e
  ·rw [e];omega
  ·have:=mem_flat2 C Q e;omega
theorem Rows_ok (ks:List Key) (hk:ks.length≤1000) (l:List (List Val)) (hl:l.length≤1000) (b f:Int) (g:List Val→List Val) (hg:∀ r,(g r).length=ks.length) (hb:I64 b) (hf:I64 f)
  (hr:Good Tryz.prog 28 [.c (rowsC l),.c (keysC ks)] [] (.tup [.c (keyedC (l.map fun x=>(x,g x))),cI 0]) []) :
  Good Tryz.prog 10 [.c (rowsC l),.c (keysC ks),cI b,cI f] [] (.tup [.c (rowsC (fsts (sortF ks (l.map fun x=>(x,g x))))),cI (cd l.length (max b 1)),cI (np (max f 2) (cd l.length (max b 1))),cI 0]) []:=by
 obtain ⟨n,hn⟩:∃ n:Nat,max b 1=(n:Int):=⟨(max b 1).toNat,by omega⟩
 obtain ⟨m,hm⟩:∃ m:Nat,max f 2=(m:Int):=⟨(max f 2).toNat,by omega⟩
 have hn1:1≤n:=by omega
 have hm2:2≤m:=by omega
 have hnb:n≤9223372036854775807:=by unfold I64 at hb;omega
 have hmb:m≤9223372036854775807:=by unfold I64 at hf;omega
 rw [hn,hm]
 obtain ⟨A,hA⟩:∃ A,A=l.map fun x=>(x,g x):=⟨_,rfl⟩
 have hAl:A.length=l.length:=by rw [hA,List.length_map]
 have hAw:∀ q,q ∈ A→WK ks q:=fun q hq=>by
  rw [hA] at hq
  obtain ⟨x,_,rfl⟩:=List.mem_map.1 hq
  exact hg x
 rw [← hA] at hr ⊢
 rw [← hAl]
 rw [← hAl] at hl
 obtain ⟨Z,hZ⟩:∃ Z,Z=sortF ks A:=⟨_,rfl⟩
 have hZl:Z.length=A.length:=by rw [hZ,sortF_len]
 rw [← hZ]
 have hro:=rows_good Z (by omega)
 obtain ⟨P,hP⟩:∃ P,P=cutF n A.length A:=⟨_,rfl⟩
 have hR0:=runs_first ks A hn1 hAw
 have hPp:=cut_parts hn1 A
 have hPl:=cut_cd hn1 A
 have hPf:=cut_flat hn1 A
 have hpc:=pieces_keyed A n (by omega) hn1 hnb
 rw [← hP,← hZ] at hR0
 rw [← hP] at hPp hPl hPf hpc
 rw [← hPl]
 have hPpl:∀ p,p ∈ P→p.length≤A.length:=fun p hp=>by
  have h1:=mem_flat_len P p hp
  rwa [hPf] at h1
 have hPlen:P.length≤A.length:=by
  have:=cd_le (n:=(A.length:Int)) (d:=(n:Int)) (by omega) (by omega)
  omega
 have hnp:=np_le (f:=(m:Int)) (by omega) _ (P.length:Int) (Nat.le_refl _) (by omega)
 have hall1:∀ R:List (List Keyed),(R.map kscell).all (fun y=>y.length == 1)=true:=fun R=>List.all_eq_true.2 fun y hy=>by
  obtain ⟨z,_,rfl⟩:=List.mem_map.1 hy
  rfl
 refine Good.of_vmQ TT 4000 Tryz.func10 rfl rfl ?_
 unfold Tryz.f10
 simp only [go_sem,hn,hm,go_sem_proc]
 refine Cl.pure TT 4000 hr (by simp only [go_sem,rowsC,keysC,go_sem_proc]) rfl ?_
 simp only [go_sem,keyedC,go_sem_proc]
 refine Cl.pure TT 4000 (order_good ks) (by simp only [go_sem,keysC,go_sem_proc]) rfl ?_
 simp only [go_sem,go_sem_proc]
 refine Cl.pure TT 4000 hpc (by simp only [go_sem,keyedC,go_sem_proc]) rfl ?_
 simp only [go_sem,orderC,List.length_map,go_sem_proc]
 refine Lp.atP TT 4000 0 (Nat.le_of_ble_eq_true rfl) [false,false,false,false,false,false,false,false,false,false,false,false,false,false,false,true,false,true,true,false,false,false,false,false,false,false,false,false,false,false,false,false,false,false,false,false,false,false,false,false,false,false,false,true,true,true,true,true,true,true,true,true,true,true,true,true,true] (fun j:Nat=>P.length-j) (fun j=>j≤P.length) (fun j=>[(8,.dead),(15,.sl 0 0 j),(43,cI j)]) (fun j=>[.rows 1 61 (((P.map (sortF ks)).take j).map kscell)]) [1] (0) (Nat.zero_le _) ?_ ?_
 ·simp only [go_sem,go_sem_proc]
  first | done | rfl | trace_state
 ·rintro j i1
  rcases Nat.lt_or_ge j P.length with hlt | hge
  ·obtain ⟨p,hp,hpm,hpt,hpd⟩:=getS hlt
   have hw:=wrap_succ (j:=j) (by omega)
   obtain ⟨hp0,hpA⟩:=hPp p hpm
   have hcl:Good Tryz.prog 31 [.c (keyedC p)] [] (.sl 0 0 p.length) [krow p]:=by
    cases p with
    | nil=>simp at hp0
    | cons x p'=>exact clone_keyed x p' (by have:=hPpl _ hpm;rw [List.length_cons] at this;omega)
   have hpl:=hPpl p hpm
   have hS:=sortStable_good ks hk p (by omega) fun q hq=>hAw q (hpA q hq)
   have hmj:min j P.length=j:=by omega
   have hb24:(j+1)*24≤140737488355328:=by omega
   have htk:List.take p.length ((sortF ks p).map kcell)=(sortF ks p).map kcell:=List.take_of_length_le (by rw [List.length_map,sortF_len];exact Nat.le_refl _)
   have hap:List.map kscell (List.take j (P.map (sortF ks)))++[[CV.lst 2 false ((sortF ks p).map kcell)]]=List.map kscell (List.take (j+1) (P.map (sortF ks))):=by
    rw [← List.map_take,← List.map_take,hpt,List.map_append,List.map_append];rfl
   simp only [go_sem,hlt,hp,go_sem_proc]
   refine Cl.frame TT 4000 [] hcl rfl (by simp only [go_sem,go_sem_proc]) rfl (Nat.zero_le _) ?_
   simp only [go_sem,krow,go_sem_proc]
   refine Cl.frame TT 4000 [1] hS rfl (by simp only [go_sem,orderC,keysC,go_sem_proc]) (by simp only [go_sem,go_sem_proc]) (Nat.le_refl _) ?_
   simp only [go_sem,krow,sortF_len,List.length_map,List.length_take,Nat.zero_add,Nat.le_refl,htk,hall1,hmj,hb24,hap,hw,go_sem_proc]
   exact ⟨j+1,[3],by omega,by omega,by kernel_rfl,⟨Fit1.of_eq rfl,Fit1.of_eq rfl⟩,rfl⟩
  ·obtain rfl:j=P.length:=by omega
   have htk:List.take P.length (P.map (sortF ks))=P.map (sortF ks):=List.take_of_length_le (by simp)
   have hRl:(P.map (sortF ks)).length=P.length:=List.length_map ..
   simp only [go_sem,Nat.lt_irrefl,htk,go_sem_proc]
   clear htk hpc hPf
   rw [← hRl]
   rw [← hRl] at hnp hPlen
   generalize P.map (sortF ks)=R0 at *
   refine Lp.atP TT 4000 0 (Nat.le_of_ble_eq_true rfl) [false,false,false,false,false,false,false,false,false,false,false,false,false,false,false,true,false,false,false,false,true,true,false,true,false,false,false,false,false,false,false,false,false,false,false,false,false,false,false,false,false,false,false,false,false,false,false,false,false,false,false,false,false,false,false,false,false,false,false,true,true,true,true,true,true,true,true,true,true,true,true,true,true,true,true,true,true,true,true,true] (fun s:List (List Keyed) × Nat=>s.1.length) (fun s=>RunsOK ks Z A.length s.1∧s.1.length≤R0.length∧(s.2:Int)+np m s.1.length=np m R0.length) (fun s=>[(57,.dead),(15,.sl 0 0 s.1.length),(20,cI s.2)]) (fun s=>[.rows 1 61 (s.1.map kscell)]) [0] ((R0,0)) (⟨hR0,Nat.le_refl _,by simp⟩) ?_ ?_
   ·simp only [go_sem,go_sem_proc]
    rfl
   ·rintro ⟨R,p⟩ ⟨i2,i3,i4⟩
    simp only at i2 i3 i4
    have hkR:List.take R.length (R.map kscell)=R.map kscell:=List.take_of_length_le (by simp)
    have htR:tot R=A.length:=by rw [tot_flatten];exact i2.n
    rcases Nat.lt_or_ge 1 R.length with hR | hR
    ·have g1:((1:Int)<(R.length:Int))=True:=by simp;omega
     have hst:=np_step (f:=(m:Int)) (l:=(R.length:Int)) (by omega) (by omega)
     have hnn:=np_nonneg (m:Int) (cd R.length m)
     have hwp:=wrap_succ (j:=p) (by omega)
     obtain ⟨C,hC⟩:∃ C,C=cutF m R.length R:=⟨_,rfl⟩
     have hnx:=runs_next ks i2 (m:=m) (by omega)
     have hCl:=cut_cd (n:=m) (by omega) R
     have hCp:=cut_parts (n:=m) (by omega) R
     have hCf:=cut_flat (n:=m) (by omega) R
     have hpr:=pieces_runs R m (by omega) (by omega) hmb
     rw [← hC] at hnx hCl hCp hCf hpr
     have hcl:=cd_lt (n:=(R.length:Int)) (d:=(m:Int)) (by omega) (by omega)
     have hme:∀ Q,Q ∈ C→Good Tryz.prog 34 [.c (orderC ks),.c (runsC Q)] [] (.c (keyedC (sortF ks Q.flatten))) []:=fun Q hQ=>by
      have h1:=mem_flat_len C Q hQ
      have h2:=mem_flat2 C Q hQ
      rw [hCf] at h1 h2
      rw [i2.n] at h2
      have hw:=fun h hh q hq=>i2.w h ((hCp Q hQ).2 h hh) q hq
      have:=merge_good ks hk Q (by omega) (by rw [tot_flatten];omega) hw
      rwa [merge_sort ks _ (isOrd ks) (tot Q) Q rfl hw (fun h hh=>i2.s h ((hCp Q hQ).2 h hh))] at this
     simp only [go_sem,g1,List.length_map,go_sem_proc]
     refine Cl.pure TT 4000 hpr (by simp only [go_sem,hkR,Nat.zero_add,Nat.le_refl,List.length_map,go_sem_proc]) rfl ?_
     simp only [go_sem,List.length_map,go_sem_proc]
     refine Lp.atP TT 4000 1 (Nat.le_of_ble_eq_true rfl) [false,false,false,false,false,false,false,false,false,false,false,false,false,false,false,false,false,false,false,false,false,true,false,true,false,false,false,false,false,false,false,false,false,false,false,false,false,false,false,false,false,false,false,false,false,false,false,false,false,false,false,false,false,false,false,false,false,false,false,false,false,false,false,false,false,false,false,false,true,true,true,true,true,true,true,true,true,true,true] (fun j:Nat=>C.length-j) (fun j=>j≤C.length) (fun j=>[(21,.sl 1 0 j),(68,cI j)]) (fun j=>[.rows 1 61 (((C.map fun Q=>sortF ks Q.flatten).take j).map kscell)]) [1] (0) (Nat.zero_le _) ?_ ?_
     ·simp only [go_sem,go_sem_proc]
      first | done | rfl | trace_state
     ·rintro j j1
      rcases Nat.lt_or_ge j C.length with hlt | hge
      ·obtain ⟨Q,hQ,hQm,hQt,hQd⟩:=getS hlt
       have hw:=wrap_succ (j:=j) (by omega)
       have hmQ:=hme Q hQm
       have hmj:min j C.length=j:=by omega
       have hb24:(j+1)*24≤140737488355328:=by omega
       have hap:List.map kscell (List.take j (C.map fun Q=>sortF ks Q.flatten))++[[CV.lst 2 false ((sortF ks Q.flatten).map kcell)]]=List.map kscell (List.take (j+1) (C.map fun Q=>sortF ks Q.flatten)):=by
        rw [← List.map_take,← List.map_take,hQt,List.map_append,List.map_append];rfl
       generalize sortF ks Q.flatten=V at hmQ hap
       simp only [go_sem,hlt,hQ,List.length_map,go_sem_proc]
       refine Cl.pure TT 4000 hmQ (by simp only [go_sem,orderC,runsC,go_sem_proc]) rfl ?_
       simp only [go_sem,keyedC,List.length_map,List.length_take,Nat.zero_add,Nat.le_refl,hall1,hmj,hb24,hap,hw,go_sem_proc]
       exact ⟨j+1,[3],by omega,by omega,by kernel_rfl,⟨Fit1.of_eq rfl,Fit1.of_eq rfl⟩,rfl⟩
      ·obtain rfl:j=C.length:=by omega
       have htC:List.take C.length (C.map fun Q=>sortF ks Q.flatten)=C.map fun Q=>sortF ks Q.flatten:=List.take_of_length_le (by simp)
       simp only [go_sem,Nat.lt_irrefl,List.length_map,htC,hwp,go_sem_proc]
       refine ⟨(C.map fun Q=>sortF ks Q.flatten,p+1),[1],by simp only [List.length_map];omega,⟨hnx,by simp only [List.length_map];omega,by simp only [List.length_map];rw [hCl];omega⟩,by kernel_rfl,⟨Fit1.of_eq (by simp only [List.length_map];rfl),Fit1.of_eq rfl⟩,rfl⟩
    ·have g1:((1:Int)<(R.length:Int))=False:=by simp;omega
     rw [np_stop (by omega),Int.add_zero] at i4
     have hmg:=merge_good ks hk R (by omega) (by omega) i2.w
     rw [merge_runs ks i2] at hmg
     simp only [go_sem,g1,List.length_map,go_sem_proc]
     refine Cl.pure TT 4000 hmg (by simp only [go_sem,hkR,Nat.zero_add,Nat.le_refl,List.length_map,runsC,orderC,go_sem_proc]) rfl ?_
     simp only [go_sem,go_sem_proc]
     refine Cl.pure TT 4000 hro (by simp only [go_sem,keyedC,go_sem_proc]) rfl ?_
     simp only [go_sem,rowsC,i4,go_sem_proc]
     first | done | exact Le.refl _ | trace_state
end Go.Ev
end
section
open Go Go.Proofs Go.RowKit
namespace Go.Ev
theorem Rows_err (ks:List Key) (l:List (List Val)) (b f e:Int) (he:e≠0)
  (hr:Good Tryz.prog 28 [.c (rowsC l),.c (keysC ks)] [] (.tup [.c (keyedC []),cI e]) []) :
  Good Tryz.prog 10 [.c (rowsC l),.c (keysC ks),cI b,cI f] [] (.tup [.c (rowsC []),cI 0,cI 0,cI e]) []:=by
 have hf':(e != 0)=true:=by simp [he]
 refine Good.of_vmQ TT 4000 Tryz.func10 rfl rfl ?_
 unfold Tryz.f10
 simp only [go_sem,go_sem_proc]
 refine Cl.pure TT 4000 hr rfl rfl ?_
 simp only [go_sem,keyedC,hf',rowsC,go_sem_proc]
 first | done | exact Le.refl _
theorem firstBad {α:Type} (er:α→Int):∀ p:List α,(∃ r,r ∈ p∧er r≠0)→∃ (k:Nat) (y:α),p[k]?=some y∧er y≠0∧∀ (j:Nat) r,j<k→p[j]?=some r→er r=0
 | [],h=>by obtain ⟨r,hr,_⟩:=h;simp at hr
 | a :: p,h=>by
  by_cases ha:er a=0
  ·obtain ⟨r,hr,he⟩:=h
   have hr2:r ∈ p:=by
    rcases List.mem_cons.1 hr with h1 | h1
    ·subst h1;exact absurd ha he
    ·exact h1
   obtain ⟨k,y,h1,h2,h3⟩:=firstBad er p ⟨r,hr2,he⟩
   refine ⟨k+1,y,by simpa using h1,h2,fun j r hj hg=>?_⟩
   cases j with
   | zero=>simp at hg;subst hg;exact ha
   | succ j=>exact h3 j r (by omega) (by simpa using hg)
  ·exact ⟨0,a,rfl,ha,fun j r hj=>absurd hj (Nat.not_lt_zero _)⟩
inductive RowsSay (ks:List Key) (x:List (List Val)):Prop
 | err (e:Int) (he:e≠0) (a:∀ b f,Good Tryz.prog 10 [.c (rowsC x),.c (keysC ks),cI b,cI f] [] (.tup [.c (rowsC []),cI 0,cI 0,cI e]) [])
   (s:Good Tryz.prog 16 [.c (rowsC x),.c (keysC ks)] [] (.tup [.c (rowsC []),cI e]) [])
 | ok (g:List Val→List Val) (hg:∀ r,(g r).length=ks.length)
   (a:∀ b f,I64 b→I64 f→Good Tryz.prog 10 [.c (rowsC x),.c (keysC ks),cI b,cI f] [] (.tup [.c (rowsC (fsts (sortF ks (x.map fun r=>(r,g r))))),cI (cd x.length (max b 1)),cI (np (max f 2) (cd x.length (max b 1))),cI 0]) [])
   (s:∀ p:List (List Val),p.length≤10000→(∀ r,r ∈ p→r ∈ x)→Good Tryz.prog 16 [.c (rowsC p),.c (keysC ks)] [] (.tup [.c (rowsC (fsts (sortF ks (p.map fun r=>(r,g r))))),cI 0]) [])
theorem rows_eval (x:List (List Val)) (ks:List Key) (hx:x.length≤1000) (hk:ks.length≤1000)
  (hEv:∀ r,r ∈ x→∀ k,k ∈ ks→EvalR r k.e (evalF r k.e).1 (evalF r k.e).2)
  (hRe:∀ r,r ∈ x→∀ k,k ∈ ks→RefR r k.e (evalF r k.e).1 (evalF r k.e).2):RowsSay ks x:=by
 obtain ⟨es,hes⟩:∃ es,es=ks.map Key.e:=⟨_,rfl⟩
 have hel:es.length≤1000:=by rw [hes,List.length_map];exact hk
 have hg:∀ r:List Val,(es.map fun e=>(evalF r e).1).length=ks.length:=fun r=>by rw [List.length_map,hes,List.length_map]
 have hRe2:∀ r,r ∈ x→∀ e,e ∈ es→RefR r e (evalF r e).1 (evalF r e).2:=fun r hr e he=>by
  rw [hes] at he
  obtain ⟨k,hkm,rfl⟩:=List.mem_map.1 he
  exact hRe r hr k hkm
 have hval:∀ r,r ∈ x→(evalL r es).2=0→Good Tryz.prog 50 [.c (.lst 7 false (es.map Expr.cs)),.c (rowC r)] [] (.tup [.c (rowC (es.map fun e=>(evalF r e).1)),cI 0]) []:=fun r hr h0 =>
  r11_values_ok es r hel (fun e=>(evalF r e).1) fun e he=>by
   have:=hRe2 r hr e he
   rwa [(evalL_ok r es h0).2 e he] at this
 have hkey:∀ (r:List Val) (i:Nat) (k:Key) (v:Val),ks[i]?=some k→(es.map fun e=>(evalF r e).1)[i]?=some v→v=(evalF r k.e).1∧es[i]?=some k.e:=fun r i k v hki hv=>by
  rw [List.getElem?_map,hes,List.getElem?_map,hki] at hv
  cases hv
  exact ⟨rfl,by rw [hes,List.getElem?_map,hki];rfl⟩
 by_cases hbad:∃ r,r ∈ x∧(evalL r es).2≠0
 ·obtain ⟨a,y,g1,g2,g3⟩:=firstBad (fun r=>(evalL r es).2) x hbad
  have hym:=List.mem_of_getElem? g1
  obtain ⟨b,z,h1,h2,h3⟩:=evalL_err y es g2
  obtain ⟨k0,hk0,hz⟩:∃ k0,ks[b]?=some k0∧k0.e=z:=by
   rw [hes,List.getElem?_map] at h1
   cases hq:ks[b]? with
   | none=>rw [hq] at h1;cases h1
   | some k0=>rw [hq] at h1;exact ⟨k0,rfl,by simpa using h1⟩
  subst hz
  have hverr:Good Tryz.prog 50 [.c (.lst 7 false (es.map Expr.cs)),.c (rowC y)] [] (.tup [.c (rowC []),cI (evalL y es).2]) []:=by
   refine r11_values_err es y hel (fun e=>(evalF y e).1) b (fun j e hj he=>?_) (w:=(evalF y k0.e).1) h1 g2 ?_
   ·have:=hRe2 y hym e (List.mem_of_getElem? he)
    rwa [h3 j e hj he] at this
   ·have:=hRe2 y hym k0.e (List.mem_of_getElem? h1)
    rwa [h2] at this
  have hPr:=r11_Project_err x es (by omega) (fun r=>es.map fun e=>(evalF r e).1) a (fun j r hj hr=>hval r (List.mem_of_getElem? hr) (g3 j r hj hr)) g1 g2 hverr
  rw [hes] at hPr g2 h2 g3
  have hS:=r11_Sort_err ks x (by omega) hk g2 hPr
  have hE:=hEv y hym k0 (List.mem_of_getElem? hk0)
  rw [h2] at hE
  have hR:=reckon_err x ks (by omega) hk (fun r=>es.map fun e=>(evalF r e).1) hg a b (fun j r i k v hji hr hki hv=>by
   obtain ⟨e1,e2⟩:=hkey r i k v hki hv
   have:=hEv r (List.mem_of_getElem? hr) k (List.mem_of_getElem? hki)
   rw [e1]
   rcases hji with hj | ⟨rfl,hi⟩
   ·have h0:=g3 j r hj hr
    rw [← hes] at h0
    rwa [(evalL_ok r es h0).2 k.e (List.mem_of_getElem? e2)] at this
   ·rw [g1] at hr
    cases hr
    rwa [h3 i k.e hi e2] at this) g1 hk0 g2 hE
  exact .err _ g2 (fun b f=>Rows_err ks x b f _ g2 hR) hS
 ·have h0:∀ r,r ∈ x→(evalL r es).2=0:=fun r hr=>Decidable.byContradiction fun hc=>hbad ⟨r,hr,hc⟩
  have hP:∀ p:List (List Val),p.length≤10000→(∀ r,r ∈ p→r ∈ x)→Good Tryz.prog 16 [.c (rowsC p),.c (keysC ks)] [] (.tup [.c (rowsC (fsts (sortF ks (p.map fun r=>(r,es.map fun e=>(evalF r e).1))))),cI 0]) []:=fun p hp hpx=>by
   refine r11_Sort_ok ks p hp hk _ hg ?_
   rw [← hes]
   exact r11_Project_ok p es (by omega) _ fun r hr=>hval r (hpx r hr) (h0 r (hpx r hr))
  have hR:=reckon_ok x ks (by omega) hk (fun r=>es.map fun e=>(evalF r e).1) hg fun r i k v hr hki hv=>by
   obtain ⟨e1,e2⟩:=hkey r i k v hki hv
   have:=hEv r hr k (List.mem_of_getElem? hki)
   rw [e1]
   rwa [(evalL_ok r es (h0 r hr)).2 k.e (List.mem_of_getElem? e2)] at this
  exact .ok _ hg (fun b f hb hf=>Rows_ok ks hk x hx b f _ hg hb hf hR) hP
end Go.Ev
end
section
open Go Go.Proofs Go.RowKit
namespace Go.Ev
theorem parts_ok6 {n:Int} {e:Expr} (h:NodeOK n e):PartsOK e:=by
 refine ⟨fun h1=>?_,fun h1=>?_⟩
 ·have h2:=h.hd
  rw [if_pos h1] at h2
  exact atB_len h2
 ·have h2:=h.hd
  rw [h1,if_neg (by simp)] at h2
  unfold headB at h2
  simp only [Bool.and_eq_true] at h2
  obtain ⟨q1,q2,_⟩:=notP_no h.np
  exact ⟨h2.1.1.1,q1,q2⟩
theorem even_say {l:List (List Val)} {ks:List Key} (h:EvenOK l ks):RowsSay ks (evenF l):=by
 have hall:∀ r,r ∈ evenF l→∀ k,k ∈ ks→Expr.All (fun y=>NodeW r.length y∧PartsOK y) k.e:=fun r hr k hkm=>by
  obtain ⟨_,h1,h2⟩:=h.key k hkm
  have h3:=((checkN_ok (wideF l:Int) k.e).1 h2).1
  rw [(h.rows r hr).1]
  have key:∀ e:Expr,Expr.All (fun y=>I64 y.v.i∧y.l.length≤1000) e→Expr.All (NodeOK (wideF l:Int)) e→Expr.All (fun y=>NodeW (wideF l) y∧PartsOK y) e:=fun e=>by
   induction e using Expr.ind with
   | h e ih =>
    intro a b
    rw [Expr.All_iff] at a b ⊢
    exact ⟨⟨⟨ok_inrow b.1,a.1.1,a.1.2⟩,parts_ok6 b.1⟩,fun y hy=>ih y hy (a.2 y hy) (b.2 y hy)⟩
  exact key k.e h1 h3
 refine rows_eval (evenF l) ks (by have:=h.len;omega) (by have:=h.keys;omega) (fun r hr k hkm=>?_) (fun r hr k hkm=>?_)
 ·exact (evalF_all r (h.rows r hr).2 k.e (h.key k hkm).1 ((hall r hr k hkm).imp fun y hy=>hy.1)).2.1
 ·exact refEval r (h.rows r hr).2 k.e (h.key k hkm).1 (hall r hr k hkm)
end Go.Ev
end
