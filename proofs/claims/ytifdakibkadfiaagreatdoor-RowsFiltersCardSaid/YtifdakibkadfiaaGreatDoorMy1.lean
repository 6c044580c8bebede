import Derived.Test.YtifdakibkadfiaaGreatDoorMs7
import Derived.Test.YtifdakibkadfiaaGreatDoorMs6
import Derived.Test.YtifdakibkadfiaaGreatDoorMs1
set_option linter.all false
set_option maxRecDepth 100000
set_option maxHeartbeats 8000000
section
open Go Go.Proofs Go.RowKit
namespace Go.Ev
def errF {α:Type} (er:α → Int):List α → Int
 | []=>0
 | a :: l=>if er a=0 then errF er l else er a
theorem errF_at {α:Type} {er:α → Int}:∀ {l:List α} {k:Nat} {y:α},l[k]?=some y → (∀ x,x ∈ l.take k → er x=0) → er y ≠ 0 → errF er l=er y
 | [],k,y,h,_,_=>by simp at h
 | a :: l,0,y,h,_,hy=>by simp at h;subst h;simp [errF,hy]
 | a :: l,k + 1,y,h,hk,hy=>by
  rw [errF,if_pos (hk a (by simp))]
  exact errF_at (by simpa using h) (fun x hx=>hk x (by simp [hx])) hy
theorem errF_ok {α:Type} {er:α → Int}:∀ {l:List α},errF er l=0 ↔ ∀ x,x ∈ l → er x=0
 | []=>by simp [errF]
 | a :: l=>by
  rw [errF]
  split
  ·rename_i h;rw [errF_ok (l:=l)];simp [h]
  ·rename_i h;simp [h]
def okF {α:Type} (e:Int) (l:List α):List α:=if e=0 then l else []
theorem okF_ok {α:Type} (l:List α):okF 0 l=l:=rfl
theorem okF_err {α:Type} {e:Int} (h:e ≠ 0) (l:List α):okF e l=[]:=if_neg h
def truthF (p:Val × Int):Bool × Int:=if p.2=0 then (if p.1.k > 1 then (false,20) else (p.1.same (truthV true),0)) else (false,p.2)
def trF (e:Expr) (r:List Val):Bool × Int:=truthF (evalF r e)
theorem logic_Holds (v:Val):Good Tryz.prog 58 [v.av] [] (cB (v.same (truthV true))) []:=by
 refine Good.of_vmQ TT 4000 Tryz.func58 rfl rfl ?_
 unfold Tryz.f58
 simp only [go_sem,go_sem_proc]
 (refine Dr.of TT (by kernel_rfl) [(88,[cB true],(truthV true).av)] ⟨⟨logic_truth true,rfl⟩,trivial⟩ ?_;simp only [go_sem,go_sem_proc];refine DEnd.of TT 4000 (memOK_quiet rfl) ?_;simp only [go_sem,go_sem_proc])
 refine Le.of_eq (congrArg cB ?_)
 simp [Val.same,truthV,Bool.and_assoc]
theorem rows_Truth (r:List Val) (e:Expr) (h:EvalR r e (evalF r e).1 (evalF r e).2) :
  Good Tryz.prog 22 [e.av,.c (rowC r)] [] (.tup [cB (trF e r).1,cI (trF e r).2]) []:=by
 unfold trF
 generalize evalF r e=p at h
 obtain ⟨v,f⟩:=p
 refine Good.of_vmQ TT 4000 Tryz.func22 rfl rfl ?_
 unfold Tryz.f22
 simp only [go_sem,go_sem_proc]
 refine Cl.pure TT 4000 h rfl rfl ?_
 by_cases hf:f=0
 ·subst hf
  by_cases hk:v.k > 1
  ·have hk':((1:Int) < v.k)=True:=by simp;omega
   simp only [go_sem,truthF,hk,hk',go_sem_proc]
   first | done | exact Le.refl _
  ·have hk':((1:Int) < v.k)=False:=by simp;omega
   simp only [go_sem,truthF,hk,hk',go_sem_proc]
   (refine Cl.pure TT 4000 (logic_Holds v) rfl rfl ?_;simp only [go_sem,go_sem_proc])
   first | done | exact Le.refl _
 ·have hf':(f != 0)=true:=bne_iff_ne.2 hf
  simp only [go_sem,truthF,hf,hf',go_sem_proc]
  first | done | exact Le.refl _
theorem ref_Holds (v:Val):Good Tryz.prog 59 [v.av] [] (cB (v.same (truthV true))) []:=by
 refine Good.of_vmQ TT 4000 Tryz.func59 rfl rfl ?_
 unfold Tryz.f59
 simp only [go_sem,go_sem_proc]
 (refine Dr.of TT (by kernel_rfl) [(90,[cB true],(truthV true).av),(89,[v.av,(truthV true).av],cB (v.same (truthV true)))] ⟨⟨ref_Bool1 true,rfl⟩,⟨⟨ref_Same v (truthV true),rfl⟩,trivial⟩⟩ ?_;simp only [go_sem,go_sem_proc];refine DEnd.of TT 4000 (memOK_quiet rfl) ?_;simp only [go_sem,go_sem_proc])
 first | done | exact Le.refl _
theorem r11_Truth (r:List Val) (e:Expr) (hk:(evalF r e).2=0 → 0 ≤ (evalF r e).1.k) (h:RefR r e (evalF r e).1 (evalF r e).2) :
  Good Tryz.prog 23 [e.av,.c (rowC r)] [] (.tup [cB (trF e r).1,cI (trF e r).2]) []:=by
 unfold trF
 generalize evalF r e=p at h hk
 obtain ⟨v,f⟩:=p
 refine Good.of_vmQ TT 4000 Tryz.func23 rfl rfl ?_
 unfold Tryz.f23
 simp only [go_sem,go_sem_proc]
 refine Cl.pure TT 4000 h rfl rfl ?_
 by_cases hf:f=0
 ·subst hf
  have hk0:=hk rfl
  simp only at hk0
  by_cases h0:v.k=0
  ·have e0:(v.k != 0)=false:=by simp [h0]
   have hk1:¬ v.k > 1:=by omega
   simp only [go_sem,truthF,e0,hk1,go_sem_proc]
   (refine Cl.pure TT 4000 (ref_Holds v) rfl rfl ?_;simp only [go_sem,go_sem_proc])
   first | done | exact Le.refl _
  ·have e0:(v.k != 0)=true:=bne_iff_ne.2 h0
   by_cases h1:v.k=1
   ·have e1:(v.k != 1)=false:=by simp [h1]
    have hk1:¬ v.k > 1:=by omega
    simp only [go_sem,truthF,e0,e1,hk1,go_sem_proc]
    (refine Cl.pure TT 4000 (ref_Holds v) rfl rfl ?_;simp only [go_sem,go_sem_proc])
    first | done | exact Le.refl _
   ·have e1:(v.k != 1)=true:=bne_iff_ne.2 h1
    have hk1:v.k > 1:=by omega
    simp only [go_sem,truthF,e0,e1,hk1,go_sem_proc]
    first | done | exact Le.refl _
 ·have hf':(f != 0)=true:=bne_iff_ne.2 hf
  simp only [go_sem,truthF,hf,hf',go_sem_proc]
  first | done | exact Le.refl _
theorem rows_Filter (l:List (List Val)) (e:Expr) (hl:l.length ≤ 1000000) (h:∀ r,r ∈ l → Good Tryz.prog 22 [e.av,.c (rowC r)] [] (.tup [cB (trF e r).1,cI (trF e r).2]) []) :
  Good Tryz.prog 18 [.c (rowsC l),e.av] [] (.tup [.c (rowsC (okF (errF (fun r=>(trF e r).2) l) (l.filter fun r=>(trF e r).1))),cI (errF (fun r=>(trF e r).2) l)]) []:=by
 obtain ⟨T,hT⟩:∃ T:List Val → Bool,∀ r,T r=(trF e r).1:=⟨_,fun _=>rfl⟩
 obtain ⟨er,her⟩:∃ er:List Val → Int,∀ r,er r=(trF e r).2:=⟨_,fun _=>rfl⟩
 have hT2:(fun r=>(trF e r).1)=T:=funext fun r=>(hT r).symm
 have her2:(fun r=>(trF e r).2)=er:=funext fun r=>(her r).symm
 rw [hT2,her2]
 have hv:∀ r,r ∈ l → Good Tryz.prog 22 [e.av,.c (rowC r)] [] (.tup [cB (T r),cI (er r)]) []:=fun r hr=>by rw [hT,her];exact h r hr
 clear h hT her hT2 her2
 obtain ⟨R,hR⟩:∃ R,R=(AV.tup [.c (rowsC (okF (errF er l) (l.filter T))),cI (errF er l)]):=⟨_,rfl⟩
 rw [← hR]
 refine Good.of_vmQ TT 4000 Tryz.func18 rfl rfl ?_
 unfold Tryz.f18
 simp only [go_sem,rowsC,go_sem_proc]
 refine Lp.atP TT 4000 1 (Nat.le_of_ble_eq_true rfl) [false,false,false,false,true,true,true,false,true,true,true,false,false,true,true,true,true,true,true,true,true,true,true,true,true,true,true,true,true,true,true,true] (fun j:Nat=>l.length - j) (fun j=>j ≤ l.length ∧ ∀ r,r ∈ l.take j → er r=0) (fun j=>[(4,.dead),(6,.sl 1 0 ((l.take j).filter T).length),(13,cI j)]) (fun j=>[.rows 1 47 (((l.take j).filter T).map rcell)]) [2] (0) (⟨Nat.zero_le _,fun r hr=>by simp at hr⟩) ?_ ?_
 ·simp only [go_sem,go_sem_proc]
  first | done | rfl | exact ⟨rfl,Fit1.of_eq rfl,rfl⟩
 ·rintro j ⟨i1,i2⟩
  rcases Nat.lt_or_ge j l.length with hlt | hge
  ·obtain ⟨x,hx,hm,ht,hd⟩:=getS hlt
   have hw:=wrap_succ (j:=j) (by omega)
   have hvx:=hv x hm
   have hfl:((l.take j).filter T).length ≤ 1000000:=Nat.le_trans (List.length_filter_le ..) (by rw [List.length_take];omega)
   have hsz:(((l.take j).filter T).length + 1) * 24 ≤ 140737488355328:=by omega
   have hall:(((l.take j).filter T).map rcell).all (fun y=>y.length == 1)=true:=List.all_eq_true.2 fun y hy=>by
    obtain ⟨z,_,rfl⟩:=List.mem_map.1 hy
    rfl
   simp only [go_sem,hlt,hx,go_sem_proc]
   refine Cl.pure TT 4000 hvx rfl rfl ?_
   by_cases he:er x=0
   ·have hnx:∀ r,r ∈ l.take (j + 1) → er r=0:=fun r hr=>by
     rw [ht] at hr
     rcases List.mem_append.1 hr with hr | hr
     ·exact i2 r hr
     ·rw [List.mem_singleton.1 hr];exact he
    have he':(er x != 0)=false:=by simp [he]
    cases hTx:T x with
    | true =>
     have hfn:(l.take (j + 1)).filter T=(l.take j).filter T ++ [x]:=by rw [ht,List.filter_append];simp [hTx]
     have hln:((l.take (j + 1)).filter T).length=((l.take j).filter T).length + 1:=by rw [hfn];simp
     have hnext:List.map rcell ((l.take j).filter T) ++ [[.lst 3 false (x.map Val.cs)]]=List.map rcell ((l.take (j + 1)).filter T):=by rw [hfn,List.map_append];rfl
     simp only [go_sem,he',hTx,hw,hall,List.length_map,Nat.zero_add,hnext,hsz,rowC,go_sem_proc]
     exact ⟨j + 1,[3],by omega,⟨by omega,hnx⟩,rfl,⟨Fit1.of_eq (by rw [hln];rfl),Fit1.of_eq rfl⟩,rfl⟩
    | false =>
     have hfn:(l.take (j + 1)).filter T=(l.take j).filter T:=by rw [ht,List.filter_append];simp [hTx]
     simp only [go_sem,he',hTx,hw,go_sem_proc]
     exact ⟨j + 1,[1],by omega,⟨by omega,hnx⟩,rfl,⟨Fit1.of_eq (by rw [hfn];rfl),Fit1.of_eq rfl⟩,by rw [hfn];rfl⟩
   ·have he':(er x != 0)=true:=bne_iff_ne.2 he
    simp only [go_sem,he',go_sem_proc]
    rw [hR,errF_at hx i2 he,okF_err he]
    exact Le.refl _
  ·have hj:j=l.length:=by omega
   subst hj
   rw [List.take_length] at i2
   have hk:List.take (l.filter T).length (List.map rcell (l.filter T))=List.map rcell (l.filter T):=List.take_of_length_le (by simp)
   simp only [go_sem,Nat.lt_irrefl,List.length_map,Nat.zero_add,Nat.le_refl,List.take_length,hk,go_sem_proc]
   rw [hR,errF_ok.2 i2,okF_ok]
   exact Le.of_eq rfl
theorem r11_Filter (l:List (List Val)) (e:Expr) (hl:l.length ≤ 1000000) (h:∀ r,r ∈ l → Good Tryz.prog 23 [e.av,.c (rowC r)] [] (.tup [cB (trF e r).1,cI (trF e r).2]) []) :
  Good Tryz.prog 19 [.c (rowsC l),e.av] [] (.tup [.c (rowsC (okF (errF (fun r=>(trF e r).2) l) (l.filter fun r=>(trF e r).1))),cI (errF (fun r=>(trF e r).2) l)]) []:=by
 obtain ⟨T,hT⟩:∃ T:List Val → Bool,∀ r,T r=(trF e r).1:=⟨_,fun _=>rfl⟩
 obtain ⟨er,her⟩:∃ er:List Val → Int,∀ r,er r=(trF e r).2:=⟨_,fun _=>rfl⟩
 have hT2:(fun r=>(trF e r).1)=T:=funext fun r=>(hT r).symm
 have her2:(fun r=>(trF e r).2)=er:=funext fun r=>(her r).symm
 rw [hT2,her2]
 have hv:∀ r,r ∈ l → Good Tryz.prog 23 [e.av,.c (rowC r)] [] (.tup [cB (T r),cI (er r)]) []:=fun r hr=>by rw [hT,her];exact h r hr
 clear h hT her hT2 her2
 obtain ⟨R,hR⟩:∃ R,R=(AV.tup [.c (rowsC (okF (errF er l) (l.filter T))),cI (errF er l)]):=⟨_,rfl⟩
 rw [← hR]
 refine Good.of_vmQ TT 4000 Tryz.func19 rfl rfl ?_
 unfold Tryz.f19
 simp only [go_sem,rowsC,go_sem_proc]
 refine Lp.atP TT 4000 1 (Nat.le_of_ble_eq_true rfl) [false,false,false,false,true,true,true,false,true,true,true,false,false,true,true,true,true,true,true,true,true,true,true,true,true,true,true,true,true,true,true,true] (fun j:Nat=>l.length - j) (fun j=>j ≤ l.length ∧ ∀ r,r ∈ l.take j → er r=0) (fun j=>[(4,.dead),(6,.sl 1 0 ((l.take j).filter T).length),(13,cI j)]) (fun j=>[.rows 1 47 (((l.take j).filter T).map rcell)]) [2] (0) (⟨Nat.zero_le _,fun r hr=>by simp at hr⟩) ?_ ?_
 ·simp only [go_sem,go_sem_proc]
  first | done | rfl | exact ⟨rfl,Fit1.of_eq rfl,rfl⟩
 ·rintro j ⟨i1,i2⟩
  rcases Nat.lt_or_ge j l.length with hlt | hge
  ·obtain ⟨x,hx,hm,ht,hd⟩:=getS hlt
   have hw:=wrap_succ (j:=j) (by omega)
   have hvx:=hv x hm
   have hfl:((l.take j).filter T).length ≤ 1000000:=Nat.le_trans (List.length_filter_le ..) (by rw [List.length_take];omega)
   have hsz:(((l.take j).filter T).length + 1) * 24 ≤ 140737488355328:=by omega
   have hall:(((l.take j).filter T).map rcell).all (fun y=>y.length == 1)=true:=List.all_eq_true.2 fun y hy=>by
    obtain ⟨z,_,rfl⟩:=List.mem_map.1 hy
    rfl
   simp only [go_sem,hlt,hx,go_sem_proc]
   refine Cl.pure TT 4000 hvx rfl rfl ?_
   by_cases he:er x=0
   ·have hnx:∀ r,r ∈ l.take (j + 1) → er r=0:=fun r hr=>by
     rw [ht] at hr
     rcases List.mem_append.1 hr with hr | hr
     ·exact i2 r hr
     ·rw [List.mem_singleton.1 hr];exact he
    have he':(er x != 0)=false:=by simp [he]
    cases hTx:T x with
    | true =>
     have hfn:(l.take (j + 1)).filter T=(l.take j).filter T ++ [x]:=by rw [ht,List.filter_append];simp [hTx]
     have hln:((l.take (j + 1)).filter T).length=((l.take j).filter T).length + 1:=by rw [hfn];simp
     have hnext:List.map rcell ((l.take j).filter T) ++ [[.lst 3 false (x.map Val.cs)]]=List.map rcell ((l.take (j + 1)).filter T):=by rw [hfn,List.map_append];rfl
     simp only [go_sem,he',hTx,hw,hall,List.length_map,Nat.zero_add,hnext,hsz,rowC,go_sem_proc]
     exact ⟨j + 1,[3],by omega,⟨by omega,hnx⟩,rfl,⟨Fit1.of_eq (by rw [hln];rfl),Fit1.of_eq rfl⟩,rfl⟩
    | false =>
     have hfn:(l.take (j + 1)).filter T=(l.take j).filter T:=by rw [ht,List.filter_append];simp [hTx]
     simp only [go_sem,he',hTx,hw,go_sem_proc]
     exact ⟨j + 1,[1],by omega,⟨by omega,hnx⟩,rfl,⟨Fit1.of_eq (by rw [hfn];rfl),Fit1.of_eq rfl⟩,by rw [hfn];rfl⟩
   ·have he':(er x != 0)=true:=bne_iff_ne.2 he
    simp only [go_sem,he',go_sem_proc]
    rw [hR,errF_at hx i2 he,okF_err he]
    exact Le.refl _
  ·have hj:j=l.length:=by omega
   subst hj
   rw [List.take_length] at i2
   have hk:List.take (l.filter T).length (List.map rcell (l.filter T))=List.map rcell (l.filter T):=List.take_of_length_le (by simp)
   simp only [go_sem,Nat.lt_irrefl,List.length_map,Nat.zero_add,Nat.le_refl,List.take_length,hk,go_sem_proc]
   rw [hR,errF_ok.2 i2,okF_ok]
   exact Le.of_eq rfl
end Go.Ev
end
section
open Go Go.Proofs Go.RowKit
namespace Go.Ev
theorem bl_self:∀ l:List UInt8,Op.bytesLess l l=false
 | []=>rfl
 | a :: l=>by simp [Op.bytesLess,bl_self l]
theorem cmp_self (a:Val):a.cmp a=0:=by
 have h1:a.lt a=false:=by simp [Val.lt,bl_self]
 have h2:a.same a=true:=by simp [Val.same]
 unfold Val.cmp
 rw [h1,h2];rfl
theorem cmpRows_self:∀ l:List Val,cmpRows l l=0
 | []=>rfl
 | a :: l=>by rw [cmpRows,cmp_self,if_neg (by simp)];exact cmpRows_self l
theorem sameRow_self (r:List Val):Good Tryz.prog 54 [.c (rowC r),.c (rowC r)] [] (cB true) []:=by
 have h:=ref_CompareRows r r
 rw [cmpRows_self] at h
 refine Good.of_vmQ TT 4000 Tryz.func54 rfl rfl ?_
 unfold Tryz.f54
 simp only [go_sem,go_sem_proc]
 refine Cl.pure TT 4000 h rfl rfl ?_
 simp only [go_sem,go_sem_proc]
 first | done | exact Le.refl _
theorem sameRows_self (l:List (List Val)) (hl:l.length ≤ 100000):Good Tryz.prog 26 [.c (rowsC l),.c (rowsC l)] [] (cB true) []:=by
 refine Good.of_vmQ TT 4000 Tryz.func26 rfl rfl ?_
 unfold Tryz.f26
 simp only [go_sem,rowsC,bne_self_eq_false,go_sem_proc]
 refine Lp.at TT 4000 0 (Nat.le_of_ble_eq_true rfl) [false,false,false,false,true,true,false,false,false,false,false,false,false,true,true,true,true,true,true,true,true,true,true,true,true,true,true] (fun j:Nat=>l.length - j) (fun j=>j ≤ l.length) (fun j=>[(13,cI j)]) (fun _=>[]) (0) (Nat.zero_le _) ?_ ?_
 ·simp only [go_sem,go_sem_proc]
  first | done | rfl
 ·rintro j i1
  rcases Nat.lt_or_ge j l.length with hlt | hge
  ·obtain ⟨x,hx,hm,ht,hd⟩:=getS hlt
   have hw:=wrap_succ (j:=j) (by omega)
   simp only [go_sem,hlt,hx,go_sem_proc]
   refine Dr.of TT (by kernel_rfl) [(54,[.c (rowC x),.c (rowC x)],cB true)] ⟨⟨sameRow_self x,rfl⟩,trivial⟩ ?_
   simp only [go_sem,hlt,hx,go_sem_proc]
   refine DEnd.of TT 4000 (memOK_of2 (by kernel_rfl)) ?_
   simp only [go_sem,hw,go_sem_proc]
   exact ⟨j + 1,by omega,by omega,Fit1.of_eq rfl⟩
  ·have:j=l.length:=by omega
   subst this
   simp only [go_sem,Nat.lt_irrefl,go_sem_proc]
   first | done | exact Le.refl _
def fillG {α:Type} (z:List CV) (f:α → List CV) (vs:List α) (n j:Nat):List (List CV):=(vs.take j).map f ++ List.replicate (n - j) z
theorem fillG_get {α:Type} {z:List CV} {f:α → List CV} {vs:List α} {n j:Nat} (hn:vs.length=n) (hj:j < n):(fillG z f vs n j)[j]?=some z:=by
 unfold fillG
 rw [List.getElem?_append_right (by simp;omega),List.length_map,List.length_take,Nat.min_eq_left (by omega),Nat.sub_self,List.getElem?_replicate,if_pos (by omega)]
theorem fillG_set {α:Type} {z:List CV} {f:α → List CV} {vs:List α} {n j:Nat} {v:α} (hn:vs.length=n) (hj:j < n) (hv:vs[j]?=some v):(fillG z f vs n j).set j (f v)=fillG z f vs n (j + 1):=by
 unfold fillG
 have h1:((vs.take j).map f).length=j:=by simp;omega
 rw [List.set_append_right _ _ (by omega),h1,Nat.sub_self,List.take_succ,hv,show n - j=(n - (j + 1)) + 1 by omega,List.replicate_succ,List.set_cons_zero]
 simp
theorem fillG_zero {α:Type} {z:List CV} {f:α → List CV} {vs:List α} {n:Nat}:fillG z f vs n 0=List.replicate n z:=by simp [fillG]
theorem fillG_all {α:Type} {z:List CV} {f:α → List CV} {vs:List α} {n:Nat} (hn:vs.length=n):fillG z f vs n n=vs.map f:=by simp [fillG,← hn]
end Go.Ev
end
section
open Go Go.Proofs Go.RowKit
namespace Go.Ev
theorem errF_wit {α:Type} {er:α → Int}:∀ {l:List α},errF er l ≠ 0 → ∃ (k:Nat) (y:α),l[k]?=some y ∧ er y=errF er l ∧ ∀ (j:Nat) x,j < k → l[j]?=some x → er x=0
 | [],h=>absurd rfl h
 | a :: l,h=>by
  rw [errF] at h ⊢
  split at h
  ·rename_i h0
   rw [if_pos h0]
   obtain ⟨k,y,h1,h2,h3⟩:=errF_wit h
   refine ⟨k + 1,y,by simpa using h1,h2,fun j x hj hx=>?_⟩
   cases j with
   | zero=>simp at hx;subst hx;exact h0
   | succ j=>exact h3 j x (by omega) (by simpa using hx)
  ·rename_i h0
   rw [if_neg h0]
   exact ⟨0,a,rfl,rfl,fun j x hj=>absurd hj (Nat.not_lt_zero _)⟩
def krF (es:List Expr) (r:List Val):List Val:=es.map fun e=>(evalF r e).1
def keF (es:List Expr) (r:List Val):Int:=errF (fun e=>(evalF r e).2) es
theorem krF_len (es:List Expr) (r:List Val):(krF es r).length=es.length:=List.length_map ..
theorem values_all (es:List Expr) (r:List Val) (hb:es.length ≤ 1000) (hv:∀ x,x ∈ es → RefR r x (evalF r x).1 (evalF r x).2) :
  Good Tryz.prog 53 [.c (.lst 7 false (es.map Expr.cs)),.c (rowC r)] [] (.tup [.c (rowC (okF (keF es r) (krF es r))),cI (keF es r)]) []:=by
 by_cases h:keF es r=0
 ·rw [h,okF_ok]
  refine r11_values_ok es r hb (fun e=>(evalF r e).1) fun x hx=>?_
  have:=hv x hx
  rwa [errF_ok.1 h x hx] at this
 ·obtain ⟨k,y,h1,h2,h3⟩:=errF_wit h
  rw [okF_err h]
  refine r11_values_err es r hb (fun e=>(evalF r e).1) k (fun j x hj hx=>?_) (y:=y) (w:=(evalF r y).1) h1 h ?_
  ·have:=hv x (List.mem_of_getElem? hx)
   rwa [h3 j x hj hx] at this
  ·have:=hv y (List.mem_of_getElem? h1)
   rwa [h2] at this
theorem r11_Project (l:List (List Val)) (es:List Expr) (hl:l.length ≤ 1000000) (hb:es.length ≤ 1000) (hv:∀ r,r ∈ l → ∀ x,x ∈ es → RefR r x (evalF r x).1 (evalF r x).2) :
  Good Tryz.prog 21 [.c (rowsC l),.c (.lst 7 false (es.map Expr.cs))] [] (.tup [.c (rowsC (okF (errF (keF es) l) (l.map (krF es)))),cI (errF (keF es) l)]) []:=by
 by_cases h:errF (keF es) l=0
 ·rw [h,okF_ok]
  refine r11_Project_ok l es hl (krF es) fun r hr=>?_
  have:=values_all es r hb (hv r hr)
  rwa [errF_ok.1 h r hr] at this
 ·obtain ⟨k,y,h1,h2,h3⟩:=errF_wit h
  rw [okF_err h]
  refine r11_Project_err l es hl (krF es) k (fun j r hj hr=>?_) (y:=y) h1 h ?_
  ·have:=values_all es r hb (hv r (List.mem_of_getElem? hr))
   rwa [h3 j r hj hr] at this
  ·have:=values_all es y hb (hv y (List.mem_of_getElem? h1))
   rw [h2,okF_err h] at this
   exact this
theorem rows_reckon (es:List Expr) (r:List Val) (hb:es.length ≤ 1000) (hv:∀ x,x ∈ es → EvalR r x (evalF r x).1 (evalF r x).2) :
  Good Tryz.prog 50 [.c (.lst 7 false (es.map Expr.cs)),.c (rowC r)] [] (.tup [.c (rowC (okF (keF es r) (krF es r))),cI (keF es r)]) []:=by
 obtain ⟨g,hg⟩:∃ g,g=krF es r:=⟨_,rfl⟩
 have hgl:g.length=es.length:=by rw [hg,krF_len]
 have hgi:∀ (i:Nat) (x:Expr),es[i]?=some x → g[i]?=some (evalF r x).1:=fun i x hx=>by rw [hg,krF,List.getElem?_map,hx];rfl
 obtain ⟨er,her⟩:∃ er:Expr → Int,∀ x,er x=(evalF r x).2:=⟨_,fun _=>rfl⟩
 obtain ⟨F,hF⟩:∃ F,F=keF es r:=⟨_,rfl⟩
 have hFe:F=errF er es:=by rw [hF,keF,show (fun e=>(evalF r e).2)=er from funext fun x=>(her x).symm]
 have hvx:∀ x,x ∈ es → EvalR r x (evalF r x).1 (er x):=fun x hx=>by rw [her];exact hv x hx
 obtain ⟨R,hR⟩:∃ R,R=(AV.tup [.c (rowC (okF F g)),cI F]):=⟨_,rfl⟩
 rw [← hF,← hg,← hR]
 clear hv hF hg her
 refine Good.of_vmQ TT 4000 Tryz.func50 rfl rfl ?_
 unfold Tryz.f50
 simp only [go_sem,go_sem_proc]
 refine ⟨⟨by omega,by omega⟩,?_⟩
 refine Lp.at TT 4000 2 (Nat.le_of_ble_eq_true rfl) [false,false,false,false,true,true,false,true,true,true,true,false,false,false,false,false,true,true,true,true,true,true,true,true,true,true,true,true,true,true,true,true,true,true,true] (fun i:Nat=>es.length - i) (fun i=>i ≤ es.length ∧ ∀ x,x ∈ es.take i → er x=0) (fun i=>[(16,cI i)]) (fun i=>[(1,.rows 3 26 (fillX g es.length i))]) (0) (⟨Nat.zero_le _,fun x hx=>by simp at hx⟩) ?_ ?_
 ·simp only [go_sem,go_sem_proc]
  rw [show fillX g es.length 0=List.replicate es.length [.int .i64 0,.int .i64 0,.str ⟨#[]⟩] by simp [fillX]]
 ·rintro i ⟨k1,k2⟩
  rcases Nat.lt_or_ge i es.length with hlt | hge
  ·obtain ⟨x,hx,hm,ht,hd⟩:=getS hlt
   have hw:=wrap_succ (j:=i) (by omega)
   have hg2:=fillX_get hgl hlt
   have hs2:=fillX_set hgl hlt (hgi i x hx)
   simp only [go_sem,hlt,hx,go_sem_proc]
   refine Cl.pure TT 4000 (hvx x hm) rfl rfl ?_
   by_cases he:er x=0
   ·have he':(er x != 0)=false:=by simp [he]
    simp only [go_sem,he',hlt,hw,hg2,hs2,Nat.zero_add,go_sem_proc]
    exact ⟨i + 1,by omega,⟨by omega,fun y hy=>by
     rw [ht] at hy
     rcases List.mem_append.1 hy with hy | hy
     ·exact k2 y hy
     ·rw [List.mem_singleton.1 hy];exact he⟩,Fit1.of_eq rfl,rfl⟩
   ·have he':(er x != 0)=true:=bne_iff_ne.2 he
    simp only [go_sem,he',go_sem_proc]
    have hF2:F=er x:=by rw [hFe];exact errF_at hx k2 he
    rw [hR,hF2,okF_err he]
    exact Le.refl _
  ·have:i=es.length:=by omega
   subst this
   rw [List.take_length] at k2
   have hf:fillX g es.length es.length=g.map Val.cs:=by simp [fillX,← hgl]
   have hk5:List.take es.length (List.map Val.cs g)=List.map Val.cs g:=List.take_of_length_le (by simp [hgl])
   have hF0:F=0:=by rw [hFe];exact errF_ok.2 k2
   simp only [go_sem,Nat.lt_irrefl,hf,hk5,Nat.zero_add,Nat.le_refl,hgl,List.length_map,go_sem_proc]
   rw [hR,hF0,okF_ok]
   exact Le.of_eq rfl
theorem rows_Project (l:List (List Val)) (es:List Expr) (hl:l.length ≤ 1000000) (hb:es.length ≤ 1000) (hv:∀ r,r ∈ l → ∀ x,x ∈ es → EvalR r x (evalF r x).1 (evalF r x).2) :
  Good Tryz.prog 20 [.c (rowsC l),.c (.lst 7 false (es.map Expr.cs))] [] (.tup [.c (rowsC (okF (errF (keF es) l) (l.map (krF es)))),cI (errF (keF es) l)]) []:=by
 have hrk:∀ r,r ∈ l → Good Tryz.prog 50 [.c (.lst 7 false (es.map Expr.cs)),.c (rowC r)] [] (.tup [.c (rowC (okF (keF es r) (krF es r))),cI (keF es r)]) []:=fun r hr=>rows_reckon es r hb (hv r hr)
 generalize keF es=er at hrk ⊢
 generalize krF es=g at hrk ⊢
 obtain ⟨F,hF⟩:∃ F,F=errF er l:=⟨_,rfl⟩
 have hn:(l.map g).length=l.length:=List.length_map ..
 obtain ⟨R,hR⟩:∃ R,R=(AV.tup [.c (rowsC (okF F (l.map g))),cI F]):=⟨_,rfl⟩
 rw [← hF,← hR]
 refine Good.of_vmQ TT 4000 Tryz.func20 rfl rfl ?_
 unfold Tryz.f20
 simp only [go_sem,rowsC,go_sem_proc]
 refine ⟨⟨by omega,by omega⟩,?_⟩
 refine Lp.at TT 4000 2 (Nat.le_of_ble_eq_true rfl) [false,false,false,false,true,true,false,true,true,true,true,false,false,false,false,false,true,true,true,true,true,true,true,true,true,true,true,true,true,true,true,true,true,true,true] (fun i:Nat=>l.length - i) (fun i=>i ≤ l.length ∧ ∀ x,x ∈ l.take i → er x=0) (fun i=>[(16,cI i)]) (fun i=>[(1,.rows 1 47 (fillG [.nl] rcell (l.map g) l.length i))]) (0) (⟨Nat.zero_le _,fun x hx=>by simp at hx⟩) ?_ ?_
 ·simp only [go_sem,go_sem_proc]
  rw [fillG_zero]
 ·rintro i ⟨k1,k2⟩
  rcases Nat.lt_or_ge i l.length with hlt | hge
  ·obtain ⟨x,hx,hm,ht,hd⟩:=getS hlt
   have hw:=wrap_succ (j:=i) (by omega)
   have hG:=fillG_get (z:=[.nl]) (f:=rcell) hn hlt
   have hS:=fillG_set (z:=[.nl]) (f:=rcell) (v:=g x) hn hlt (by rw [List.getElem?_map,hx];rfl)
   simp only [rcell,rowC] at hS
   simp only [go_sem,hlt,hx,go_sem_proc]
   refine Cl.pure TT 4000 (hrk x hm) rfl rfl ?_
   by_cases he:er x=0
   ·have he':(er x != 0)=false:=by simp [he]
    simp only [go_sem,he',he,okF_ok,hlt,hw,hG,hS,Nat.zero_add,rowC,go_sem_proc]
    exact ⟨i + 1,by omega,⟨by omega,fun y hy=>by
     rw [ht] at hy
     rcases List.mem_append.1 hy with hy | hy
     ·exact k2 y hy
     ·rw [List.mem_singleton.1 hy];exact he⟩,Fit1.of_eq rfl,rfl⟩
   ·have he':(er x != 0)=true:=bne_iff_ne.2 he
    simp only [go_sem,he',go_sem_proc]
    have hF2:F=er x:=by rw [hF];exact errF_at hx k2 he
    rw [hR,hF2,okF_err he]
    exact Le.refl _
  ·have:i=l.length:=by omega
   subst this
   rw [List.take_length] at k2
   have hf:fillG [.nl] rcell (l.map g) l.length l.length=(l.map g).map rcell:=fillG_all hn
   have hk5:List.take l.length (List.map rcell (l.map g))=List.map rcell (l.map g):=List.take_of_length_le (by simp)
   have hF0:F=0:=by rw [hF];exact errF_ok.2 k2
   simp only [go_sem,Nat.lt_irrefl,hf,hk5,Nat.zero_add,Nat.le_refl,go_sem_proc]
   rw [hR,hF0,okF_ok]
   exact Le.of_eq rfl
end Go.Ev
end
