import Derived.Test.YtifdakibkadfiaaGreatDoorMs7
import Derived.Test.YtifdakibkadfiaaGreatDoorMs6
import Derived.Test.YtifdakibkadfiaaGreatDoorMs1
set_option linter.all false
set_option maxRecDepth 100000
set_option maxHeartbeats 8000000
section
open Go Go.Proofs Go.RowKit
namespace Go.Ev
def Wm {α:Type} (er:α → Int):List α → Int
 | []=>0
 | a :: l=>if er a=0 then Wm er l else er a
theorem Kv {α:Type} {er:α → Int}:∀ {l:List α} {k:Nat} {y:α},l[k]?=some y → (∀ x,x ∈ l.take k → er x=0) → er y ≠ 0 → Wm er l=er y
 | [],k,y,h,_,_=>by simp at h
 | a :: l,0,y,h,_,hy=>by simp at h;subst h;simp [Wm,hy]
 | a :: l,k + 1,y,h,hk,hy=>by
  rw [Wm,if_pos (hk a (by simp))]
  exact Kv (by simpa using h) (fun x hx=>hk x (by simp [hx])) hy
theorem Vt {α:Type} {er:α → Int}:∀ {l:List α},Wm er l=0 ↔ ∀ x,x ∈ l → er x=0
 | []=>by simp [Wm]
 | a :: l=>by
  rw [Wm]
  split
  ·rename_i h;rw [Vt (l:=l)];simp [h]
  ·rename_i h;simp [h]
def okF {α:Type} (e:Int) (l:List α):List α:=if e=0 then l else []
theorem zjN {α:Type} (l:List α):okF 0 l=l:=rfl
theorem zeQ {α:Type} {e:Int} (h:e ≠ 0) (l:List α):okF e l=[]:=if_neg h
def Qi (p:Val × Int):Bool × Int:=if p.2=0 then (if p.1.k > 1 then (false,20) else (p.1.same (zZ true),0)) else (false,p.2)
def trF (e:Expr) (r:List Val):Bool × Int:=Qi (z7 r e)
theorem za4 (v:Val):Good Tryz.prog 58 [v.av] [] (cB (v.same (zZ true))) []:=by
 refine Good.zg TT 4000 Tryz.func58 rfl rfl ?_
 unfold Tryz.f58
 simp only [go_sem,go_sem_proc]
 (refine Dr.of TT (by kernel_rfl) [(88,[cB true],(zZ true).av)] ⟨⟨kq true,rfl⟩,trivial⟩ ?_;simp only [go_sem,go_sem_proc];refine jy.of TT 4000 (qn rfl) ?_;simp only [go_sem,go_sem_proc])
 refine Le.of_eq (congrArg cB ?_)
 simp [Val.same,zZ,Bool.and_assoc]
theorem zcF (r:List Val) (e:Expr) (h:xd r e (z7 r e).1 (z7 r e).2) :
  Good Tryz.prog 22 [e.av,.c (qk r)] [] (.tup [cB (trF e r).1,cI (trF e r).2]) []:=by
 unfold trF
 generalize z7 r e=p at h
 obtain ⟨v,f⟩:=p
 refine Good.zg TT 4000 Tryz.func22 rfl rfl ?_
 unfold Tryz.f22
 simp only [go_sem,go_sem_proc]
 refine Cl.pure TT 4000 h rfl rfl ?_
 by_cases hf:f=0
 ·subst hf
  by_cases hk:v.k > 1
  ·have hk':((1:Int) < v.k)=True:=by simp;omega
   simp only [go_sem,Qi,hk,hk',go_sem_proc]
   first | done | exact Le.refl _
  ·have hk':((1:Int) < v.k)=False:=by simp;omega
   simp only [go_sem,Qi,hk,hk',go_sem_proc]
   (refine Cl.pure TT 4000 (za4 v) rfl rfl ?_;simp only [go_sem,go_sem_proc])
   first | done | exact Le.refl _
 ·have hf':(f != 0)=true:=bne_iff_ne.2 hf
  simp only [go_sem,Qi,hf,hf',go_sem_proc]
  first | done | exact Le.refl _
theorem Xo (v:Val):Good Tryz.prog 59 [v.av] [] (cB (v.same (zZ true))) []:=by
 refine Good.zg TT 4000 Tryz.func59 rfl rfl ?_
 unfold Tryz.f59
 simp only [go_sem,go_sem_proc]
 (refine Dr.of TT (by kernel_rfl) [(90,[cB true],(zZ true).av),(89,[v.av,(zZ true).av],cB (v.same (zZ true)))] ⟨⟨qb true,rfl⟩,⟨⟨JN v (zZ true),rfl⟩,trivial⟩⟩ ?_;simp only [go_sem,go_sem_proc];refine jy.of TT 4000 (qn rfl) ?_;simp only [go_sem,go_sem_proc])
 first | done | exact Le.refl _
theorem ze3 (r:List Val) (e:Expr) (hk:(z7 r e).2=0 → 0 ≤ (z7 r e).1.k) (h:Vs r e (z7 r e).1 (z7 r e).2) :
  Good Tryz.prog 23 [e.av,.c (qk r)] [] (.tup [cB (trF e r).1,cI (trF e r).2]) []:=by
 unfold trF
 generalize z7 r e=p at h hk
 obtain ⟨v,f⟩:=p
 refine Good.zg TT 4000 Tryz.func23 rfl rfl ?_
 unfold Tryz.f23
 simp only [go_sem,go_sem_proc]
 refine Cl.pure TT 4000 h rfl rfl ?_
 by_cases hf:f=0
 ·subst hf
  have hk0:=hk rfl
  simp only at hk0
  by_cases h0:v.k=0
  ·have e0:(v.k != 0)=false:=by simp [h0]
   have hk1:¬ v.k > 1:=by omega
   simp only [go_sem,Qi,e0,hk1,go_sem_proc]
   (refine Cl.pure TT 4000 (Xo v) rfl rfl ?_;simp only [go_sem,go_sem_proc])
   first | done | exact Le.refl _
  ·have e0:(v.k != 0)=true:=bne_iff_ne.2 h0
   by_cases h1:v.k=1
   ·have e1:(v.k != 1)=false:=by simp [h1]
    have hk1:¬ v.k > 1:=by omega
    simp only [go_sem,Qi,e0,e1,hk1,go_sem_proc]
    (refine Cl.pure TT 4000 (Xo v) rfl rfl ?_;simp only [go_sem,go_sem_proc])
    first | done | exact Le.refl _
   ·have e1:(v.k != 1)=true:=bne_iff_ne.2 h1
    have hk1:v.k > 1:=by omega
    simp only [go_sem,Qi,e0,e1,hk1,go_sem_proc]
    first | done | exact Le.refl _
 ·have hf':(f != 0)=true:=bne_iff_ne.2 hf
  simp only [go_sem,Qi,hf,hf',go_sem_proc]
  first | done | exact Le.refl _
end Go.Ev
end
section
open Go Go.Proofs Go.RowKit
namespace Go.Ev
theorem zeu:∀ l:List UInt8,Op.bytesLess l l=false
 | []=>rfl
 | a :: l=>by simp [Op.bytesLess,zeu l]
theorem zik (a:Val):a.cmp a=0:=by
 have h1:a.lt a=false:=by simp [Val.lt,zeu]
 have h2:a.same a=true:=by simp [Val.same]
 unfold Val.cmp
 rw [h1,h2];rfl
theorem Qf:∀ l:List Val,xh l l=0
 | []=>rfl
 | a :: l=>by rw [xh,zik,if_neg (by simp)];exact Qf l
theorem Ya (r:List Val):Good Tryz.prog 54 [.c (qk r),.c (qk r)] [] (cB true) []:=by
 have h:=KY r r
 rw [Qf] at h
 refine Good.zg TT 4000 Tryz.func54 rfl rfl ?_
 unfold Tryz.f54
 simp only [go_sem,go_sem_proc]
 refine Cl.pure TT 4000 h rfl rfl ?_
 simp only [go_sem,go_sem_proc]
 first | done | exact Le.refl _
theorem JU (l:List (List Val)) (hl:l.length ≤ 100000):Good Tryz.prog 26 [.c (qD l),.c (qD l)] [] (cB true) []:=by
 refine Good.zg TT 4000 Tryz.func26 rfl rfl ?_
 unfold Tryz.f26
 simp only [go_sem,qD,bne_self_eq_false,go_sem_proc]
 refine Lp.at TT 4000 0 (Nat.le_of_ble_eq_true rfl) [false,false,false,false,true,true,false,false,false,false,false,false,false,true,true,true,true,true,true,true,true,true,true,true,true,true,true] (fun j:Nat=>l.length - j) (fun j=>j ≤ l.length) (fun j=>[(13,cI j)]) (fun _=>[]) (0) (Nat.zero_le _) ?_ ?_
 ·simp only [go_sem,go_sem_proc]
  first | done | rfl
 ·rintro j i1
  rcases Nat.lt_or_ge j l.length with hlt | hge
  ·obtain ⟨x,hx,hm,ht,hd⟩:=vj hlt
   have hw:=zh (j:=j) (by omega)
   simp only [go_sem,hlt,hx,go_sem_proc]
   refine Dr.of TT (by kernel_rfl) [(54,[.c (qk x),.c (qk x)],cB true)] ⟨⟨Ya x,rfl⟩,trivial⟩ ?_
   simp only [go_sem,hlt,hx,go_sem_proc]
   refine jy.of TT 4000 (zJ (by kernel_rfl)) ?_
   simp only [go_sem,hw,go_sem_proc]
   exact ⟨j + 1,by omega,by omega,zq.of_eq rfl⟩
  ·have:j=l.length:=by omega
   subst this
   simp only [go_sem,Nat.lt_irrefl,go_sem_proc]
   first | done | exact Le.refl _
end Go.Ev
end
section
open Go Go.Proofs Go.RowKit
namespace Go.Ev
end Go.Ev
end
