import Derived.Test.YtifdakibkadfiaaGreatDoorMv0
import Derived.Test.YtifdakibkadfiaaGreatDoorMr3
import Derived.Test.YtifdakibkadfiaaGreatDoorMy1
set_option linter.all false
set_option maxRecDepth 100000
set_option maxHeartbeats 8000000
section
open Go Go.Proofs Go.RowKit
namespace Go.Ev
def VD (wd:Int):Nat:=(((wd.tmod 6) + 6).tmod 6).toNat
theorem Jr (wd:Int):VD wd < 6:=by
 unfold VD
 have:=Int.tmod_lt_of_pos ((wd.tmod 6) + 6) (show (0:Int) < 6 by omega)
 omega
theorem ziQ (wd:Int) (h:I64 wd):IntKind.wrap .i64 (wd.tmod 6 + 6)=wd.tmod 6 + 6 ∧ (wd.tmod 6 + 6).tmod 6=(VD wd:Int):=by
 have h1:=Int.tmod_lt_of_pos wd (show (0:Int) < 6 by omega)
 have h2:-6 < wd.tmod 6:=by have:=Int.lt_tmod_of_pos wd (show (0:Int) < 6 by omega);omega
 refine ⟨qd (by omega) (by omega),?_⟩
 unfold VD
 rw [Int.toNat_of_nonneg (Int.tmod_nonneg _ (by omega))]
def Zp (l:List (List Val)):Bool:=decide (l.length ≤ 30) && decide (cnt l ≤ 1500) && l.all (fun r=>kj r == 0)
def zlB (wd:Int) (l:List (List Val)):AV:=.agg [cI wd,.c (qD l)]
theorem Ye (wd:Int) (hwd:I64 wd) (l:List (List Val)) (hs:∀ r,r ∈ l → ∀ v,v ∈ r → v.s.size ≤ 281474976710656) :
  Good Tryz.prog 11 [zlB wd l] [] (if Zp l=true then .tup [.c (qD (l.map (VX (VD wd)))),cI (VD wd),cB true] else .tup [.c (qD []),cI (VD wd),cB false]) []:=by
 obtain ⟨e1,e2⟩:=ziQ wd hwd
 have hw6:=Jr wd
 generalize VD wd=w at e2 hw6 ⊢
 obtain ⟨R,hR⟩:∃ R,R=(if Zp l=true then AV.tup [.c (qD (l.map (VX w))),cI w,cB true] else .tup [.c (qD []),cI w,cB false]):=⟨_,rfl⟩
 rw [← hR]
 have hno:Zp l=false → Le (.tup [.c (.lst 1 false []),cI w,cB false]) R:=fun h=>by rw [hR,h];exact Le.refl _
 have n6:((6:Int)=0)=False:=by simp
 refine Good.zg TT 4000 Tryz.func11 rfl rfl ?_
 unfold Tryz.f11
 simp only [go_sem,zlB,qD,List.length_map,n6,e1,e2,go_sem_proc]
 by_cases h1:l.length ≤ 30
 ·have g1:((30:Int) < (l.length:Int))=False:=by simp;omega
  simp only [go_sem,g1,go_sem_proc]
  refine Cl.pure TT 4000 (zkx l 1500 (by omega) (by omega) hs) (by simp only [go_sem,qD,go_sem_proc];rfl) rfl ?_
  by_cases h2:cnt l ≤ 1500
  ·have d2:decide (cnt l ≤ 1500)=true:=decide_eq_true h2
   simp only [go_sem,d2,List.length_map,go_sem_proc]
   have hc2:∀ r,r ∈ l → r.length ≤ 1500:=fun r hr=>by
    have h7:=zhg hr
    have h8:∀ x:List Val,x.length ≤ Qu x:=fun x=>by
     induction x with
     | nil=>exact Nat.zero_le _
     | cons v x ih =>
      have h9:Qu (v :: x)=1 + v.s.size + Qu x:=by simp [Qu]
      rw [List.length_cons];omega
    have h9:=h8 r
    omega
   refine Lp.atP TT 4000 1 (Nat.le_of_ble_eq_true rfl) [false,false,true,true,true,false,true,false,true,true,false,false,false,false,false,false,false,false,false,false,false,false,false,false,false,false,false,false,false,true,true,true,true,true,true,true,true,true,true,true,true,true,true,true,true,true,true,true,true,true,true,true,true,true,true,true,true] (fun j:Nat=>l.length - j) (fun j=>j ≤ l.length ∧ ∀ r,r ∈ l.take j → kj r=0) (fun j=>[(2,.dead),(6,.sl 1 0 j),(29,cI j)]) (fun j=>[.rows 1 47 (((l.take j).map (VX w)).map qH)]) [2] (0) (⟨Nat.zero_le _,fun r hr=>by simp at hr⟩) ?_ ?_
   ·simp only [go_sem,go_sem_proc]
    first | done | rfl
   ·rintro j ⟨i1,i2⟩
    rcases Nat.lt_or_ge j l.length with hlt | hge
    ·obtain ⟨r,hr,hm,ht,hd⟩:=vj hlt
     have hwj:=zh (j:=j) (by omega)
     have hmn:min (r.length:Int) (w:Int)=((min w r.length:Nat):Int):=by omega
     have hm1:min w r.length ≤ r.length:=Nat.min_le_right ..
     have hrl:=hc2 r hm
     simp only [go_sem,hlt,hr,List.length_map,go_sem_proc]
     refine Cl.pure TT 4000 (XC r) rfl rfl ?_
     by_cases hck:kj r=0
     ·have htk:List.take (min w r.length) (List.map Val.cs r)=(r.take w).map Val.cs:=by
       rw [← List.map_take]
       congr 1
       rcases Nat.le_total r.length w with h | h
       ·rw [Nat.min_eq_right h,List.take_of_length_le (Nat.le_refl _),List.take_of_length_le h]
       ·rw [Nat.min_eq_left h]
      have hal3:∀ x:List Val,(x.map Val.cs).all (fun y=>y.length == 3)=true:=fun x=>List.all_eq_true.2 fun y hy=>by
       obtain ⟨z,_,rfl⟩:=List.mem_map.1 hy
       rfl
      have hln:min w r.length * 32 ≤ 140737488355328:=by omega
      simp only [go_sem,hck,hmn,hm1,htk,hal3,List.length_map,List.length_take,hln,go_sem_proc]
      obtain ⟨X,hX⟩:∃ X:Nat → List Val,∀ i,X i=r.take w ++ List.replicate i zeroV:=⟨_,fun _=>rfl⟩
      have hXl:∀ i,(X i).length=min w r.length + i:=fun i=>by rw [hX,List.length_append,List.length_take,List.length_replicate]
      have hXn:∀ i,(X i).map Val.cs ++ [[.int .i64 0,.int .i64 0,.str ⟨#[]⟩]]=(X (i + 1)).map Val.cs:=fun i=>by rw [hX,hX,List.replicate_succ',← List.append_assoc,List.map_append (l₂:=[zeroV])];rfl
      have hX0:(r.take w).map Val.cs=(X 0).map Val.cs:=by rw [hX];simp
      rw [hX0]
      refine Lp.atP TT 4000 2 (Nat.le_of_ble_eq_true rfl) [false,false,false,false,false,false,false,false,false,true,false,false,false,false,false,false,false,false,false,false,false,false,false,false,false,false,false,false,false,false,false,false,false,false,false,false,false,false,false,false,false,false,false,false,true,true,true,true,true,true,true,true] (fun i:Nat=>(w - r.length) - i) (fun i=>i ≤ w - r.length) (fun i=>[(43,.dead),(9,.sl 2 0 (min w r.length + i))]) (fun i=>[.rows 3 26 ((X i).map Val.cs)]) [2] (0) (Nat.zero_le _) ?_ ?_
      ·simp only [go_sem,go_sem_proc]
       exact ⟨by first | done | rfl,zq.of_eq rfl⟩
      ·rintro i k1
       rcases Nat.lt_or_ge i (w - r.length) with hi | hi
       ·have c1:(((min w r.length + i:Nat):Int) < (w:Int))=True:=by simp;omega
        have hs2:(min w r.length + i + 1) * 32 ≤ 140737488355328:=by omega
        simp only [go_sem,c1,hXl,List.length_map,Nat.zero_add,hal3,hs2,hXn,go_sem_proc]
        exact ⟨i + 1,[4],by omega,by omega,by kernel_rfl,zq.of_eq rfl,rfl⟩
       ·have hi2:i=w - r.length:=by omega
        have c1:(((min w r.length + i:Nat):Int) < (w:Int))=False:=by simp;omega
        have hXe:X i=VX w r:=by rw [hX,hi2];rfl
        have hkx:List.take (min w r.length + i) (List.map Val.cs (X i))=(VX w r).map Val.cs:=by
         rw [hXe]
         refine List.take_of_length_le ?_
         rw [List.length_map,zbG];omega
        have hlo:((l.take j).map (VX w)).length=j:=by rw [List.length_map,List.length_take];omega
        have hal1:∀ x:List (List Val),(x.map qH).all (fun y=>y.length == 1)=true:=fun x=>List.all_eq_true.2 fun y hy=>by
         obtain ⟨z,_,rfl⟩:=List.mem_map.1 hy
         rfl
        have ho2:(j + 1) * 24 ≤ 140737488355328:=by omega
        have hon:List.map qH (List.map (VX w) (List.take j l)) ++ [[.lst 3 false ((VX w r).map Val.cs)]]=List.map qH (List.map (VX w) (List.take (j + 1) l)):=by rw [ht,List.map_append,List.map_append];rfl
        have hmj:min j l.length=j:=by omega
        simp only [go_sem,c1,hXl,List.length_map,List.length_take,hmj,Nat.zero_add,Nat.le_refl,hkx,hal1,ho2,hon,hlo,hwj,go_sem_proc]
        exact ⟨j + 1,[4],by omega,⟨by omega,fun z hz=>by
         rw [ht] at hz
         rcases List.mem_append.1 hz with hz | hz
         ·exact i2 z hz
         ·rw [List.mem_singleton.1 hz];exact hck⟩,by kernel_rfl,⟨zq.of_eq rfl,zq.of_eq rfl⟩,rfl⟩
     ·have hb:Zp l=false:=by
       unfold Zp
       rw [show l.all (fun r=>kj r == 0)=false from by
        rw [Bool.eq_false_iff];intro h
        have:=List.all_eq_true.1 h r hm
        exact hck (by simpa using this)]
       rw [Bool.and_false]
      have hck':(kj r != 0)=true:=bne_iff_ne.2 hck
      simp only [go_sem,hck',go_sem_proc]
      exact hno hb
    ·have hjl:j=l.length:=by omega
     subst hjl
     rw [List.take_length] at i2
     have hlx:List.take l.length (List.map qH (List.map (VX w) l))=List.map qH (List.map (VX w) l):=List.take_of_length_le (by simp)
     simp only [go_sem,Nat.lt_irrefl,List.length_map,List.take_length,hlx,Nat.zero_add,Nat.le_refl,go_sem_proc]
     have hfin:Zp l=true:=by
      unfold Zp
      rw [decide_eq_true h1,decide_eq_true h2,show l.all (fun r=>kj r == 0)=true from List.all_eq_true.2 fun r hr=>by rw [i2 r hr];rfl]
      rfl
     rw [hR,hfin]
     exact Le.of_eq rfl
  ·have d2:decide (cnt l ≤ 1500)=false:=decide_eq_false h2
   simp only [go_sem,d2,go_sem_proc]
   exact hno (by unfold Zp;rw [d2,Bool.and_false,Bool.false_and])
 ·have g1:((30:Int) < (l.length:Int))=True:=by simp;omega
  simp only [go_sem,g1,go_sem_proc]
  exact hno (by unfold Zp;rw [decide_eq_false h1];rfl)
def zea (w:Nat) (e:Expr):Bool:=decide (0 ≤ wc e 30) && Zs e && (xt w e == 0)
theorem zcj (w:Nat) (hw:w ≤ 1000) (es:List Expr) (hl:es.length ≤ 100) :
  Good Tryz.prog 12 [cI w,.c (.lst 7 false (es.map Expr.cs))] [] (cB (es.all (zea w))) []:=by
 obtain ⟨R,hR⟩:∃ R,R=cB (es.all (zea w)):=⟨_,rfl⟩
 rw [← hR]
 refine Good.zg TT 4000 Tryz.func12 rfl rfl ?_
 unfold Tryz.f12
 simp only [go_sem,List.length_map,go_sem_proc]
 refine Lp.at TT 4000 0 (Nat.le_of_ble_eq_true rfl) [false,false,false,false,true,false,true,false,false,true,true,true,true,true,true,true,true,true,true,true,true,true,true,true,true,true,true,true] (fun k:Nat=>es.length - k) (fun k=>k ≤ es.length ∧ ∀ y,y ∈ es.take k → zea w y=true) (fun k=>[(9,cI k)]) (fun _=>[]) (0) (⟨Nat.zero_le _,fun y hy=>by simp at hy⟩) ?_ ?_
 ·simp only [go_sem,go_sem_proc]
  first | done | rfl
 ·rintro k ⟨k1,k2⟩
  rcases Nat.lt_or_ge k es.length with hlt | hge
  ·obtain ⟨x,hx,hm,ht,hd⟩:=vj hlt
   have hwk:=zh (j:=k) (by omega)
   have hbad:zea w x=false → R=cB false:=fun h=>by
    rw [hR]
    refine congrArg cB ?_
    rw [Bool.eq_false_iff];intro h2
    have:=List.all_eq_true.1 h2 x hm
    rw [h] at this;cases this
   simp only [go_sem,hlt,hx,go_sem_proc]
   refine Cl.pure TT 4000 (zkh x 30 (by omega) (by omega)) rfl rfl ?_
   cases hf:decide (0 ≤ wc x 30)
   ·simp only [go_sem,hf,go_sem_proc]
    rw [hbad (by unfold zea;rw [hf];rfl)]
    exact Le.refl _
   simp only [go_sem,hf,go_sem_proc]
   refine Cl.pure TT 4000 (zfQ x) rfl rfl ?_
   cases hg:Zs x
   ·simp only [go_sem,hf,hg,go_sem_proc]
    rw [hbad (by unfold zea;rw [hf,hg];rfl)]
    exact Le.refl _
   simp only [go_sem,hf,hg,go_sem_proc]
   have hnod:=VN x 30 (of_decide_eq_true hf)
   have hlf:=of_decide_eq_true hf
   refine Cl.pure TT 4000 (zgt x (w:Int) (by omega)) rfl rfl ?_
   by_cases hc:xt w x=0
   ·simp only [go_sem,hc,hwk,go_sem_proc]
    exact ⟨k + 1,by omega,⟨by omega,fun y hy=>by
     rw [ht] at hy
     rcases List.mem_append.1 hy with hy | hy
     ·exact k2 y hy
     ·rw [List.mem_singleton.1 hy];unfold zea;rw [hf,hg,hc];rfl⟩,zq.of_eq rfl⟩
   ·have hc':(xt w x != 0)=true:=bne_iff_ne.2 hc
    simp only [go_sem,hc',go_sem_proc]
    rw [hbad (by
     unfold zea
     rw [show (xt w x == 0)=false from beq_eq_false_iff_ne.2 hc,Bool.and_false])]
    exact Le.refl _
  ·have hkl:k=es.length:=by omega
   subst hkl
   rw [List.take_length] at k2
   simp only [go_sem,Nat.lt_irrefl,go_sem_proc]
   rw [hR,List.all_eq_true.2 k2]
   exact Le.refl _
theorem zi1 {w:Nat} {e:Expr} (h:zea w e=true) (he:Expr.All (fun x=>I64 x.v.i) e):wtE e ≤ 9000000 ∧ Expr.All (fun y=>I64 y.v.i ∧ y.l.length ≤ 1000) e ∧ xt w e=0 ∧ e.nodes ≤ 30:=by
 unfold zea at h
 simp only [Bool.and_eq_true,decide_eq_true_eq,beq_iff_eq] at h
 have hn:=VN e 30 h.1.1
 have h7:=zcA _ h.1.2
 have h8:=ziL _ h7
 exact ⟨by omega,he.and (zcl _ (by omega)),h.2,by omega⟩
theorem zfR (l:List (List Val)) (e:Int) (hl:l.length ≤ 100000):Good Tryz.prog 15 [.c (qD l),cI e,.c (qD l),cI e] [] (cB true) []:=by
 refine Good.zg TT 4000 Tryz.func15 rfl rfl ?_
 unfold Tryz.f15
 simp only [go_sem,go_sem_proc]
 refine Cl.pure TT 4000 (JU l hl) rfl rfl ?_
 simp only [go_sem,go_sem_proc]
 first | done | exact Le.refl _
end Go.Ev
end
section
open Go Go.Proofs Go.RowKit
namespace Go.Ev
structure zms (x:List (List Val)) (w n:Nat):Prop where
 len:x.length ≤ n
 rows:∀ r,r ∈ x → r.length=w ∧ ∀ v,v ∈ r → I64 v.i ∧ v.s.size ≤ 100000 ∧ v.ok=true
theorem zm4 {v:Val} (h:v.ok=true):0 ≤ v.k ∧ v.k ≤ 4:=by
 unfold Val.ok at h
 simp only [Bool.or_eq_true,Bool.and_eq_true,beq_iff_eq] at h
 omega
theorem zag {r:List Val} (h:kj r=0):∀ v,v ∈ r → v.ok=true:=by
 unfold kj at h
 intro v hv
 split at h
 ·exact absurd h (by simp)
 ·rename_i h2
  cases hk:v.ok with
  | true=>rfl
  | false=>exact absurd (List.any_eq_true.2 ⟨v,hv,by simp [hk]⟩) h2
theorem zlz {w:Nat} {l:List (List Val)} (h:Zp l=true) (hl:∀ r,r ∈ l → ∀ v,v ∈ r → I64 v.i):zms (l.map (VX w)) w 30:=by
 unfold Zp at h
 simp only [Bool.and_eq_true,decide_eq_true_eq,List.all_eq_true,beq_iff_eq] at h
 obtain ⟨⟨h1,h2⟩,h3⟩:=h
 refine ⟨by rw [List.length_map];exact h1,fun r hr=>?_⟩
 obtain ⟨y,hy,rfl⟩:=List.mem_map.1 hr
 refine ⟨zbG _ _,fun v hv=>?_⟩
 rcases zks hv with hv | rfl
 ·refine ⟨hl y hy v hv,?_,zag (h3 y hy) v hv⟩
  have:=zhg hy
  have:=zj4 hv
  omega
 ·exact ⟨by unfold I64 zeroV;simp,Nat.zero_le _,rfl⟩
structure zjI (r:List Val) (e:Expr):Prop where
 p:xd r e (z7 r e).1 (z7 r e).2
 q:Vs r e (z7 r e).1 (z7 r e).2
 ok:(z7 r e).2=0 → (z7 r e).1.ok=true
 i:I64 (z7 r e).1.i
 s:(z7 r e).1.s.size ≤ wtE e
theorem zcW {n:Int} {e:Expr} (h:Qj n e):Yx e:=by
 refine ⟨fun h1=>?_,fun h1=>?_⟩
 ·have h2:=h.hd
  rw [if_pos h1] at h2
  exact zfz h2
 ·have h2:=h.hd
  rw [h1,if_neg (by simp)] at h2
  unfold ZX at h2
  simp only [Bool.and_eq_true] at h2
  obtain ⟨q1,q2,_⟩:=zaY h.np
  exact ⟨h2.1.1.1,q1,q2⟩
theorem zlU {r:List Val} {w:Nat} {e:Expr} (hr:r.length=w ∧ ∀ v,v ∈ r → I64 v.i ∧ v.s.size ≤ 100000 ∧ v.ok=true) (he:zea w e=true) (hI:Expr.All (fun x=>I64 x.v.i) e):zjI r e:=by
 obtain ⟨h1,h2,h3,_⟩:=zi1 he hI
 have h4:=((zgQ (w:Int) e).1 h3).1
 have key:∀ e:Expr,Expr.All (fun y=>I64 y.v.i ∧ y.l.length ≤ 1000) e → Expr.All (Qj (w:Int)) e → Expr.All (fun y=>zkj w y ∧ Yx y) e:=fun e=>by
  induction e using Expr.ind with
  | h e ih =>
   intro a b
   rw [Expr.vu] at a b ⊢
   exact ⟨⟨⟨zhR b.1,a.1.1,a.1.2⟩,zcW b.1⟩,fun y hy=>ih y hy (a.2 y hy) (b.2 y hy)⟩
 have hall:=key e h2 h4
 rw [← hr.1] at hall
 have hrv:∀ v,v ∈ r → I64 v.i ∧ v.s.size ≤ 100000:=fun v hv=>⟨(hr.2 v hv).1,(hr.2 v hv).2.1⟩
 obtain ⟨q1,q2,q3⟩:=WI r hrv e h1 (hall.imp fun y hy=>hy.1)
 refine ⟨q2,zkp r hrv e h1 hall,q3 (fun v hv=>(hr.2 v hv).2.2) (h4.imp fun y hy=>zh3 hy),q1.1,q1.2⟩
end Go.Ev
end
section
open Go Go.Proofs Go.RowKit
namespace Go.Ev
end Go.Ev
end
