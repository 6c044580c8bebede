import Derived.Test.YtifdakibkadfiaaGreatDoorMe1
import Derived.Test.YtifdakibkadfiaaGreatDoorMe3
import Derived.Test.YtifdakibkadfiaaGreatDoorMe4
set_option linter.all false
set_option maxRecDepth 100000
set_option maxHeartbeats 8000000
section
open Go Go.Proofs
namespace Go.Ev
def stP (n:Nat) (m:List Bool) (t:List AV) (h:List ABlk) (V:List (Nat × AV)) (B:List ABlk):St:=⟨setAll V (maskT m t),h.take n ++ B⟩
theorem stP_eq {n:Nat} {m:List Bool} {t:List AV} {h:List ABlk} {V:List (Nat × AV)} {B:List ABlk}:stP n m t h V B=⟨setAll V (maskT m t),h.take n ++ B⟩:=by rw [stP]
attribute [go_sem] stP_eq
theorem Lp.atP {G:Ctx} {K:List Fr} {t:List AV} {h:List ABlk} {c:Code} (T:TabOK G.P G.E) (k:Nat) (n:Nat) (hn:G.n ≤ n) (m:List Bool) {α:Type} (μ:α → Nat) (I:α → Prop) (V:α → List (Nat × AV)) (B:α → List ABlk) (js0:List Nat) (a0:α) (h0:I a0) (hs:FitP n js0 ⟨t,h⟩ (stP n m t h (V a0) (B a0)))
  (round:∀ a,I a → vm G k (.code c) (.lp (fun s'=>∃ a' js,μ a' < μ a ∧ I a' ∧ FitP n js s' (stP n m t h (V a') (B a'))) :: K) (stP n m t h (V a) (B a))):Lp G c K ⟨t,h⟩:=
 Lp.fitP T k n hn μ I (fun a=>stP n m t h (V a) (B a)) js0 a0 h0 hs round
end Go.Ev
end
section
open Go Go.Proofs
namespace Go.Ev
theorem ref_Same (a b:Val):Good Tryz.prog 89 [a.av,b.av] [] (cB (a.same b)) []:=by
 refine Good.of_vmQ TT 4000 Tryz.func89 rfl rfl ?_
 unfold Tryz.f89
 simp only [go_sem,go_sem_proc]
 repeat' first | (refine vm_sym (by simp only [go_sem]) ?_ ?_ <;> intro hg <;> simp only [go_sem,hg,go_sem_proc]) | (refine vm_br ?_ ?_ <;> intro hg <;> simp only [go_sem,hg,go_sem_proc])
 all_goals refine Le.of_eq (congrArg cB ?_)
 all_goals simp_all [Val.same]
theorem ref_Compare (a b:Val):Good Tryz.prog 69 [a.av,b.av] [] (cI (a.cmp b)) []:=by
 refine Good.of_vmQ TT 4000 Tryz.func69 rfl rfl ?_
 unfold Tryz.f69
 simp only [go_sem,go_sem_proc]
 repeat' first | (refine vm_sym (by simp only [go_sem]) ?_ ?_ <;> intro hg <;> simp only [go_sem,hg,go_sem_proc]) | (refine vm_br ?_ ?_ <;> intro hg <;> simp only [go_sem,hg,go_sem_proc]) | (refine Cl.pure TT 4000 (ref_Same a b) rfl rfl ?_;simp only [go_sem,go_sem_proc])
 all_goals refine Le.of_eq (congrArg cI ?_)
 all_goals simp_all [Val.cmp,Val.lt]
def cmpRows:List Val → List Val → Int
 | [],[]=>0
 | [],_ :: _=>-1
 | _ :: _,[]=>1
 | a :: l,b :: m=>if a.cmp b ≠ 0 then a.cmp b else cmpRows l m
theorem ref_CompareRows (l m:List Val):Good Tryz.prog 32 [.c (rowC l),.c (rowC m)] [] (cI (cmpRows l m)) []:=by
 refine Good.bound (xs:=l.map Val.cs) (List.mem_cons_self ..) fun hl=>?_
 rw [List.length_map] at hl
 refine Good.of_vmQ TT 4000 Tryz.func32 rfl rfl ?_
 unfold Tryz.f32
 simp only [go_sem,go_sem_proc]
 refine Lp.fit TT 4000 0 (Nat.le_refl _) (fun j:Nat=>l.length - j) (fun j=>j ≤ l.length ∧ j ≤ m.length ∧ cmpRows l m=cmpRows (l.drop j) (m.drop j))
  (fun j=>⟨[.c (rowC l),.c (rowC m),.und,.und,cI 0,.dead,.dead,.c (rowC l),cI l.length,cI j] ++ List.replicate 24 .dead,[]⟩) 0 ⟨Nat.zero_le _,Nat.zero_le _,by simp⟩ ?_ ?_
 ·simp only [go_sem,go_sem_proc]
 ·rintro j ⟨i1,i2,i3⟩
  rcases Nat.lt_or_ge j l.length with hlt | hge
  ·obtain ⟨x,hx,hm,ht,hd⟩:=getS hlt
   have hw:=wrap_succ (j:=j) (by omega)
   rcases Nat.lt_or_ge j m.length with hlt' | hge'
   ·obtain ⟨y,hy,hm',ht',hd'⟩:=getS hlt'
    rw [hd,hd'] at i3
    simp only [go_sem,hlt,hx,hw,ge_iff_le,Nat.not_le.2 hlt',go_sem_proc]
    (refine Dr.of TT (by kernel_rfl) [(69,[x.av,y.av],cI (x.cmp y))] ⟨⟨ref_Compare x y,rfl⟩,trivial⟩ ?_;simp only [go_sem,hlt,hx,hy,hlt',hw,go_sem_proc];refine DEnd.of TT 4000 (memOK_quiet rfl) ?_;simp only [go_sem,hlt,hx,hy,hlt',hw,go_sem_proc])
    repeat' first | (refine vm_sym (by simp only [go_sem]) ?_ ?_ <;> intro hg <;> simp only [go_sem,hg,hw,go_sem_proc]) | (refine vm_br ?_ ?_ <;> intro hg <;> simp only [go_sem,hg,hw,go_sem_proc])
    ·simp only [bne_iff_ne,ne_eq] at hg
     refine Le.of_eq (congrArg cI ?_)
     rw [i3,cmpRows,if_pos hg]
    ·have hg':x.cmp y=0:=by simpa using hg
     exact ⟨j + 1,by omega,⟨by omega,by omega,by rw [i3,cmpRows,if_neg (by simp [hg'])]⟩,Fit1.of_eq rfl⟩
   ·simp only [go_sem,hlt,hx,hw,ge_iff_le,hge',go_sem_proc]
    rw [show m.drop j=[] from List.drop_of_length_le hge',hd] at i3
    refine Le.of_eq (congrArg cI ?_)
    rw [i3];rfl
  ·simp only [go_sem,Nat.not_lt.2 hge,go_sem_proc]
   rw [show l.drop j=[] from List.drop_of_length_le hge] at i3
   rcases Nat.lt_or_ge l.length m.length with h | h
   ·simp only [go_sem,h,go_sem_proc]
    refine Le.of_eq (congrArg cI ?_)
    obtain ⟨y,hy,hm',ht',hd'⟩:=getS (l:=m) (j:=j) (by omega)
    rw [i3,hd'];rfl
   ·simp only [go_sem,Nat.not_lt.2 h,go_sem_proc]
    refine Le.of_eq (congrArg cI ?_)
    rw [i3,List.drop_of_length_le (by omega)];rfl
end Go.Ev
end
section
open Go Go.Proofs
namespace Go.Ev
theorem ref_Bool1 (b:Bool):Good Tryz.prog 90 [cB b] [] (truthV b).av []:=by
 refine Good.of_vmQ TT 4000 Tryz.func90 rfl rfl ?_
 unfold Tryz.f90
 cases b <;> simp only [go_sem,go_sem_proc]
 ·exact Le.refl _
 ·exact Le.refl _
theorem r02_may (l:List Val) (hb:l.length ≤ 1000000):Good Tryz.prog 122 [.c (rowC l)] [] (cB (l.all Val.ok)) []:=by
 refine Good.of_vmQ TT 4000 Tryz.func122 rfl rfl ?_
 unfold Tryz.f122
 simp only [go_sem,go_sem_proc]
 refine Lp.at TT 4000 0 (Nat.le_of_ble_eq_true rfl) [false,false,true,false,true,false,false,true,true,true,true,true,true,true,true] (fun j:Nat=>l.length - j) (fun j=>j ≤ l.length ∧ (l.take j).all Val.ok=true) (fun j=>[(7,cI j)]) (fun _=>[]) (0) (⟨Nat.zero_le _,rfl⟩) ?_ ?_
 ·simp only [go_sem,go_sem_proc]
 ·rintro j ⟨i1,i2⟩
  rcases Nat.lt_or_ge j l.length with hlt | hge
  ·obtain ⟨x,hx,hm,ht,hd⟩:=getS hlt
   have hw:=wrap_succ (j:=j) (by omega)
   simp only [go_sem,hlt,hx,go_sem_proc]
   refine Cl.pure TT 4000 (ref_Check x) rfl rfl ?_
   cases hk:x.ok
   ·have:l.all Val.ok=false:=List.all_eq_false.2 ⟨x,hm,by rw [hk];simp⟩
    simp only [go_sem,hk,this,Bool.false_eq_true,go_sem_proc]
   ·simp only [go_sem,hk,hw,go_sem_proc]
    exact ⟨j + 1,by omega,⟨by omega,by rw [ht,List.all_append,i2];simp [hk]⟩,Fit1.of_eq rfl⟩
  ·have:j=l.length:=by omega
   subst this
   rw [List.take_length] at i2
   simp only [go_sem,Nat.lt_irrefl,i2,go_sem_proc]
def trL:List Val → Bool → Bool → Bool → Bool × Bool × Bool × Int
 | [],n,o,y=>(n,o,y,0)
 | v :: l,n,o,y=>if v.k=0 then trL l true o y else if v.k ≠ 1 then (false,false,false,20) else if v.i=0 then trL l n true y else trL l n o true
def trS (l:List Val):Bool × Bool × Bool × Int:=if l.all Val.ok then trL l false false false else (false,false,false,1)
abbrev trAV (t:Bool × Bool × Bool × Int):AV:=.tup [cB t.1,cB t.2.1,cB t.2.2.1,cI t.2.2.2]
theorem r02_truths (l:List Val) (hb:l.length ≤ 1000000):Good Tryz.prog 123 [.c (rowC l)] [] (trAV (trS l)) []:=by
 refine Good.of_vmQ TT 4000 Tryz.func123 rfl rfl ?_
 unfold Tryz.f123
 simp only [go_sem,go_sem_proc]
 refine Cl.pure TT 4000 (r02_may l hb) rfl rfl ?_
 unfold trS
 cases hk:l.all Val.ok
 ·simp only [go_sem,go_sem_proc]
 simp only [go_sem,go_sem_proc]
 refine Lp.at TT 4000 0 (Nat.le_of_ble_eq_true rfl) [false,false,true,true,true,true,true,true,true,false,true,false,false,false,false,false,true,true,true,true,true,true,true,true,true,true,true,true,true,true,true,true,true] (fun a:Nat × Bool × Bool × Bool=>l.length - a.1) (fun a=>a.1 ≤ l.length ∧ trL l false false false=trL (l.drop a.1) a.2.1 a.2.2.1 a.2.2.2) (fun a=>[(6,cB a.2.1),(7,cB a.2.2.1),(8,cB a.2.2.2),(16,cI a.1)]) (fun _=>[]) ((0,false,false,false)) (⟨Nat.zero_le _,rfl⟩) ?_ ?_
 ·simp only [go_sem,go_sem_proc]
 ·rintro ⟨j,n,o,y⟩ ⟨i1,i2⟩
  simp only at i1 i2
  rcases Nat.lt_or_ge j l.length with hlt | hge
  ·obtain ⟨x,hx,hm,ht,hd⟩:=getS hlt
   have hw:=wrap_succ (j:=j) (by omega)
   rw [hd,trL] at i2
   by_cases k0:x.k=0
   ·have k0':(x.k == 0)=true:=by simp [k0]
    simp only [go_sem,hlt,hx,k0',hw,go_sem_proc]
    exact ⟨(j + 1,true,o,y),by simp only;omega,⟨by simp only;omega,by simp only;rw [i2,if_pos k0]⟩,by simp only [go_sem,go_sem_proc]⟩
   ·have k0':(x.k == 0)=false:=by simp [k0]
    by_cases k1:x.k=1
    ·have k1':(x.k != 1)=false:=by simp [k1]
     by_cases z:x.i=0
     ·have z':(x.i == 0)=true:=by simp [z]
      simp only [go_sem,hlt,hx,k0',k1',z',hw,go_sem_proc]
      exact ⟨(j + 1,n,true,y),by simp only;omega,⟨by simp only;omega,by simp only;rw [i2,if_neg k0,if_neg (by simp [k1]),if_pos z]⟩,by simp only [go_sem,go_sem_proc]⟩
     ·have z':(x.i == 0)=false:=by simp [z]
      simp only [go_sem,hlt,hx,k0',k1',z',hw,go_sem_proc]
      exact ⟨(j + 1,n,o,true),by simp only;omega,⟨by simp only;omega,by simp only;rw [i2,if_neg k0,if_neg (by simp [k1]),if_neg z]⟩,by simp only [go_sem,go_sem_proc]⟩
    ·have k1':(x.k != 1)=true:=by simp [k1]
     simp only [go_sem,hlt,hx,k0',k1',go_sem_proc]
     rw [i2,if_neg k0,if_pos k1]
     exact Le.refl _
  ·have:j=l.length:=by omega
   subst this
   rw [List.drop_of_length_le (Nat.le_refl _),trL] at i2
   simp only [go_sem,Nat.lt_irrefl,i2,go_sem_proc]
end Go.Ev
end
section
open Go Go.Proofs
namespace Go.Ev
theorem ok_bool {v:Val} (h:v.ok=true) (hk:v.k=1):(v.i=0 ∨ v.i=1) ∧ v.s=⟨#[]⟩:=by
 obtain ⟨k,i,s⟩:=v
 simp only at hk
 subst hk
 have h2:((i == 0 || i == 1) && s.size == 0)=true:=by
  unfold Val.ok at h
  simpa using h
 simp only [Bool.and_eq_true,Bool.or_eq_true,beq_iff_eq] at h2
 refine ⟨h2.1,ba_nil (by have:=h2.2;show ¬ 0 < s.size;omega)⟩
theorem ok_false {v:Val} (h:v.ok=true) (hk:v.k=1) (hi:v.i=0):v=truthV false:=by
 obtain ⟨k,i,s⟩:=v
 have:=(ok_bool h hk).2
 simp only at hk hi this
 subst hk hi this;rfl
theorem ok_true {v:Val} (h:v.ok=true) (hk:v.k=1) (hi:v.i ≠ 0):v=truthV true ∧ v.i=1:=by
 have h1:=(ok_bool h hk).1
 have h2:v.i=1:=by omega
 obtain ⟨k,i,s⟩:=v
 have:=(ok_bool h hk).2
 simp only at hk h2 this
 subst hk h2 this;exact ⟨rfl,rfl⟩
theorem trL_null {v:Val} (l:List Val) (n o y:Bool) (k:v.k=0):trL (v :: l) n o y=trL l true o y:=by rw [trL,if_pos k]
theorem trL_bad {v:Val} (l:List Val) (n o y:Bool) (k:v.k ≠ 0) (k1:v.k ≠ 1):trL (v :: l) n o y=(false,false,false,20):=by rw [trL,if_neg k,if_pos k1]
theorem trL_no {v:Val} (l:List Val) (n o y:Bool) (k1:v.k=1) (z:v.i=0):trL (v :: l) n o y=trL l n true y:=by rw [trL,if_neg (by omega),if_neg (by simp [k1]),if_pos z]
theorem trL_yes {v:Val} (l:List Val) (n o y:Bool) (k1:v.k=1) (z:v.i ≠ 0):trL (v :: l) n o y=trL l n o true:=by rw [trL,if_neg (by omega),if_neg (by simp [k1]),if_neg z]
theorem lgL_null {v:Val} (d:Int) (l:List Val) (out:Val) (dec:Bool) (k:v.k=0):lgL d (v :: l) out dec=lgL d l (if dec then out else zeroV) dec:=by rw [lgL,if_neg (by omega),if_pos k]
theorem lgL_bad {v:Val} (d:Int) (l:List Val) (out:Val) (dec:Bool) (k:v.k ≠ 0) (k1:v.k ≠ 1):lgL d (v :: l) out dec=(zeroV,20):=by rw [lgL,if_pos ⟨k,k1⟩]
theorem lgL_hit {v:Val} (d:Int) (l:List Val) (out:Val) (dec:Bool) (k1:v.k=1) (z:v.i=d):lgL d (v :: l) out dec=lgL d l v true:=by rw [lgL,if_neg (by omega),if_neg (by omega),if_pos z]
theorem lgL_miss {v:Val} (d:Int) (l:List Val) (out:Val) (dec:Bool) (k1:v.k=1) (z:v.i ≠ d):lgL d (v :: l) out dec=lgL d l out dec:=by rw [lgL,if_neg (by omega),if_neg (by omega),if_neg z]
def andT (t:Bool × Bool × Bool × Int):Val × Int:=if t.2.2.2 ≠ 0 ∨ (t.1=true ∧ t.2.1=false) then (zeroV,t.2.2.2) else (truthV (!t.2.1),0)
def orT (t:Bool × Bool × Bool × Int):Val × Int:=if t.2.2.2 ≠ 0 ∨ (t.1=true ∧ t.2.2.1=false) then (zeroV,t.2.2.2) else (truthV t.2.2.1,0)
theorem fold0:∀ (l:List Val) (n o y:Bool),(∀ v,v ∈ l → v.ok=true) →
  lgL 0 l (if o then truthV false else if n then zeroV else truthV true) o=andT (trL l n o y)
 | [],n,o,y,_=>by cases o <;> cases n <;> rfl
 | v :: l,n,o,y,h=>by
  have hv:=h v (by simp)
  have hl:∀ x,x ∈ l → x.ok=true:=fun x hx=>h x (List.mem_cons_of_mem _ hx)
  by_cases k0:v.k=0
  ·rw [lgL_null _ _ _ _ k0,trL_null _ _ _ _ k0,← fold0 l true o y hl]
   cases o <;> rfl
  ·by_cases k1:v.k=1
   ·by_cases i0:v.i=0
    ·rw [lgL_hit _ _ _ _ k1 i0,trL_no _ _ _ _ k1 i0,← fold0 l n true y hl,ok_false hv k1 i0];rfl
    ·rw [lgL_miss _ _ _ _ k1 i0,trL_yes _ _ _ _ k1 i0,← fold0 l n o true hl]
   ·rw [lgL_bad _ _ _ _ k0 k1,trL_bad _ _ _ _ k0 k1];rfl
theorem fold1:∀ (l:List Val) (n o y:Bool),(∀ v,v ∈ l → v.ok=true) →
  lgL 1 l (if y then truthV true else if n then zeroV else truthV false) y=orT (trL l n o y)
 | [],n,o,y,_=>by cases y <;> cases n <;> rfl
 | v :: l,n,o,y,h=>by
  have hv:=h v (by simp)
  have hl:∀ x,x ∈ l → x.ok=true:=fun x hx=>h x (List.mem_cons_of_mem _ hx)
  by_cases k0:v.k=0
  ·rw [lgL_null _ _ _ _ k0,trL_null _ _ _ _ k0,← fold1 l true o y hl]
   cases y <;> rfl
  ·by_cases k1:v.k=1
   ·by_cases i0:v.i=0
    ·rw [lgL_miss _ _ _ _ k1 (by omega),trL_no _ _ _ _ k1 i0,← fold1 l n true y hl]
    ·obtain ⟨g1,g2⟩:=ok_true hv k1 i0
     rw [lgL_hit _ _ _ _ k1 g2,trL_yes _ _ _ _ k1 i0,← fold1 l n o true hl]
     rw [g1];rfl
   ·rw [lgL_bad _ _ _ _ k0 k1,trL_bad _ _ _ _ k0 k1];rfl
theorem lg_and (l:List Val):lgS 0 l=andT (trS l):=by
 unfold lgS trS
 cases h:l.all Val.ok
 ·rfl
 ·exact fold0 l false false false (List.all_eq_true.1 h)
theorem lg_or (l:List Val):lgS 1 l=orT (trS l):=by
 unfold lgS trS
 cases h:l.all Val.ok
 ·rfl
 ·exact fold1 l false false false (List.all_eq_true.1 h)
theorem r02_And (l:List Val) (hb:l.length ≤ 1000000):Good Tryz.prog 83 [.c (rowC l)] [] (vals (lgS 0 l).1 (lgS 0 l).2) []:=by
 rw [lg_and]
 refine Good.of_vmQ TT 4000 Tryz.func83 rfl rfl ?_
 unfold Tryz.f83
 simp only [go_sem,go_sem_proc]
 refine Cl.pure TT 4000 (r02_truths l hb) rfl rfl ?_
 generalize trS l=t
 obtain ⟨n,o,y,e⟩:=t
 simp only [andT,orT]
 by_cases he:e=0
 ·subst he
  cases n <;> cases o <;> simp only [go_sem,go_sem_proc]
  ·(refine Cl.pure TT 4000 (ref_Bool1 true) rfl rfl ?_;simp only [go_sem,go_sem_proc])
   exact Le.refl _
  ·(refine Cl.pure TT 4000 (ref_Bool1 false) rfl rfl ?_;simp only [go_sem,go_sem_proc])
   exact Le.refl _
  ·exact Le.refl _
  ·(refine Cl.pure TT 4000 (ref_Bool1 false) rfl rfl ?_;simp only [go_sem,go_sem_proc])
   exact Le.refl _
 ·have he':(e != 0)=true:=by simp [he]
  simp only [go_sem,he',he,go_sem_proc]
  exact Le.refl _
theorem r02_Or (l:List Val) (hb:l.length ≤ 1000000):Good Tryz.prog 117 [.c (rowC l)] [] (vals (lgS 1 l).1 (lgS 1 l).2) []:=by
 rw [lg_or]
 refine Good.of_vmQ TT 4000 Tryz.func117 rfl rfl ?_
 unfold Tryz.f117
 simp only [go_sem,go_sem_proc]
 refine Cl.pure TT 4000 (r02_truths l hb) rfl rfl ?_
 generalize trS l=t
 obtain ⟨n,o,y,e⟩:=t
 simp only [andT,orT]
 by_cases he:e=0
 ·subst he
  cases n <;> cases y <;> simp only [go_sem,go_sem_proc]
  ·(refine Cl.pure TT 4000 (ref_Bool1 false) rfl rfl ?_;simp only [go_sem,go_sem_proc])
   exact Le.refl _
  ·(refine Cl.pure TT 4000 (ref_Bool1 true) rfl rfl ?_;simp only [go_sem,go_sem_proc])
   exact Le.refl _
  ·exact Le.refl _
  ·(refine Cl.pure TT 4000 (ref_Bool1 true) rfl rfl ?_;simp only [go_sem,go_sem_proc])
   exact Le.refl _
 ·have he':(e != 0)=true:=by simp [he]
  simp only [go_sem,he',he,go_sem_proc]
  exact Le.refl _
theorem not_tr (v:Val):notS v=(if (trS [v]).2.2.2 ≠ 0 ∨ (trS [v]).1=true then (zeroV,(trS [v]).2.2.2) else (truthV (trS [v]).2.1,0)):=by
 unfold notS
 rw [lg_and]
 unfold trS
 cases h:[v].all Val.ok
 ·rfl
 ·have hv:v.ok=true:=by simpa using h
  rw [if_pos rfl]
  by_cases k0:v.k=0
  ·rw [trL_null _ _ _ _ k0];rfl
  ·by_cases k1:v.k=1
   ·by_cases i0:v.i=0
    ·rw [trL_no _ _ _ _ k1 i0];rfl
    ·rw [trL_yes _ _ _ _ k1 i0];rfl
   ·rw [trL_bad _ _ _ _ k0 k1];rfl
theorem r02_Not (v:Val):Good Tryz.prog 116 [v.av] [] (vals (notS v).1 (notS v).2) []:=by
 rw [not_tr]
 refine Good.of_vmQ TT 4000 Tryz.func116 rfl rfl ?_
 unfold Tryz.f116
 simp only [go_sem,go_sem_proc]
 refine Cl.pure TT 4000 (r02_truths [v] (by simp)) rfl rfl ?_
 generalize trS [v]=t
 obtain ⟨n,o,y,e⟩:=t
 by_cases he:e=0
 ·subst he
  cases n <;> simp only [go_sem,go_sem_proc]
  ·(refine Cl.pure TT 4000 (ref_Bool1 o) rfl rfl ?_;simp only [go_sem,go_sem_proc])
   exact Le.refl _
  ·exact Le.refl _
 ·have he':(e != 0)=true:=by simp [he]
  simp only [go_sem,he',he,go_sem_proc]
  exact Le.refl _
end Go.Ev
end
section
open Go Go.Proofs
namespace Go.Ev
theorem r02_Rel (op:ByteArray) (a b:Val):Good Tryz.prog 82 [cS op,a.av,b.av] [] (vals (relS op a b).1 (relS op a b).2) []:=by
 refine Good.of_vmQ TT 4000 Tryz.func82 rfl rfl ?_
 unfold Tryz.f82
 simp only [go_sem,go_sem_proc]
 refine Cl.pure TT 4000 (r02_may [a,b] (by simp)) rfl rfl ?_
 have hall:List.all [a,b] Val.ok=(a.ok && b.ok):=by simp
 rw [hall]
 unfold relS
 cases hk:(a.ok && b.ok)
 ·simp only [go_sem,go_sem_proc]
  exact Le.refl _
 simp only [go_sem,go_sem_proc]
 refine Cl.pure TT 4000 (ref_Compare a b) rfl rfl ?_
 unfold relB
 generalize a.cmp b=n
 have hge:decide (n ≥ 0) = !decide (n < 0):=by by_cases h:n < 0 <;> simp [h] <;> omega
 have hle:decide (n ≤ 0) = !decide (n > 0):=by by_cases h:n > 0 <;> simp [h] <;> omega
 have hne:(n != 0) = !(n == 0):=rfl
 cases o1:(op.toList == (⟨#[61]⟩:ByteArray).toList)
 ·skip
  cases o2:(op.toList == (⟨#[60,62]⟩:ByteArray).toList)
  ·skip
   cases o3:(op.toList == (⟨#[60]⟩:ByteArray).toList)
   ·skip
    cases o4:(op.toList == (⟨#[62,61]⟩:ByteArray).toList)
    ·skip
     cases o5:(op.toList == (⟨#[62]⟩:ByteArray).toList)
     ·skip
      cases o6:(op.toList == (⟨#[60,61]⟩:ByteArray).toList)
      ·skip
       simp only [go_sem,o1,o2,o3,o4,o5,o6,Bool.false_eq_true,go_sem_proc]
       exact Le.refl _
      ·simp only [go_sem,o1,o2,o3,o4,o5,o6,Bool.false_eq_true,go_sem_proc]
       by_cases k1:a.k=0
       ·have k1':(a.k == 0)=true:=by simp [k1]
        simp only [go_sem,k1',k1,go_sem_proc]
        exact Le.refl _
       ·have k1':(a.k == 0)=false:=by simp [k1]
        by_cases k2:b.k=0
        ·have k2':(b.k == 0)=true:=by simp [k2]
         simp only [go_sem,k1',k1,k2',k2,go_sem_proc]
         exact Le.refl _
        ·have k2':(b.k == 0)=false:=by simp [k2]
         by_cases k3:a.k=b.k
         ·have k3':(a.k != b.k)=false:=by simp [k3]
          simp only [go_sem,k1',k1,k2',k2,k3',go_sem_proc]
          refine Cl.pure TT 4000 (ref_Bool1 (decide (n ≤ 0))) rfl rfl ?_
          simp only [go_sem,k3,hge,hle,hne,go_sem_proc]
          exact Le.refl _
         ·have k3':(a.k != b.k)=true:=by simp [k3]
          simp only [go_sem,k1',k1,k2',k2,k3',k3,go_sem_proc]
          exact Le.refl _
     ·have o6:(op.toList == (⟨#[60,61]⟩:ByteArray).toList)=false:=by rw [eq_of_beq o5];exact (bs_eq [62] [60,61]).trans rfl
      simp only [go_sem,o1,o2,o3,o4,o5,o6,Bool.false_eq_true,go_sem_proc]
      by_cases k1:a.k=0
      ·have k1':(a.k == 0)=true:=by simp [k1]
       simp only [go_sem,k1',k1,go_sem_proc]
       exact Le.refl _
      ·have k1':(a.k == 0)=false:=by simp [k1]
       by_cases k2:b.k=0
       ·have k2':(b.k == 0)=true:=by simp [k2]
        simp only [go_sem,k1',k1,k2',k2,go_sem_proc]
        exact Le.refl _
       ·have k2':(b.k == 0)=false:=by simp [k2]
        by_cases k3:a.k=b.k
        ·have k3':(a.k != b.k)=false:=by simp [k3]
         simp only [go_sem,k1',k1,k2',k2,k3',go_sem_proc]
         refine Cl.pure TT 4000 (ref_Bool1 (decide (n > 0))) rfl rfl ?_
         simp only [go_sem,k3,hge,hle,hne,go_sem_proc]
         exact Le.refl _
        ·have k3':(a.k != b.k)=true:=by simp [k3]
         simp only [go_sem,k1',k1,k2',k2,k3',k3,go_sem_proc]
         exact Le.refl _
    ·have o6:(op.toList == (⟨#[60,61]⟩:ByteArray).toList)=false:=by rw [eq_of_beq o4];exact (bs_eq [62,61] [60,61]).trans rfl
     have o5:(op.toList == (⟨#[62]⟩:ByteArray).toList)=false:=by rw [eq_of_beq o4];exact (bs_eq [62,61] [62]).trans rfl
     simp only [go_sem,o1,o2,o3,o4,o5,o6,Bool.false_eq_true,go_sem_proc]
     by_cases k1:a.k=0
     ·have k1':(a.k == 0)=true:=by simp [k1]
      simp only [go_sem,k1',k1,go_sem_proc]
      exact Le.refl _
     ·have k1':(a.k == 0)=false:=by simp [k1]
      by_cases k2:b.k=0
      ·have k2':(b.k == 0)=true:=by simp [k2]
       simp only [go_sem,k1',k1,k2',k2,go_sem_proc]
       exact Le.refl _
      ·have k2':(b.k == 0)=false:=by simp [k2]
       by_cases k3:a.k=b.k
       ·have k3':(a.k != b.k)=false:=by simp [k3]
        simp only [go_sem,k1',k1,k2',k2,k3',go_sem_proc]
        refine Cl.pure TT 4000 (ref_Bool1 (decide (n ≥ 0))) rfl rfl ?_
        simp only [go_sem,k3,hge,hle,hne,go_sem_proc]
        exact Le.refl _
       ·have k3':(a.k != b.k)=true:=by simp [k3]
        simp only [go_sem,k1',k1,k2',k2,k3',k3,go_sem_proc]
        exact Le.refl _
   ·simp only [go_sem,o1,o2,o3,Bool.false_eq_true,go_sem_proc]
    by_cases k1:a.k=0
    ·have k1':(a.k == 0)=true:=by simp [k1]
     simp only [go_sem,k1',k1,go_sem_proc]
     exact Le.refl _
    ·have k1':(a.k == 0)=false:=by simp [k1]
     by_cases k2:b.k=0
     ·have k2':(b.k == 0)=true:=by simp [k2]
      simp only [go_sem,k1',k1,k2',k2,go_sem_proc]
      exact Le.refl _
     ·have k2':(b.k == 0)=false:=by simp [k2]
      by_cases k3:a.k=b.k
      ·have k3':(a.k != b.k)=false:=by simp [k3]
       simp only [go_sem,k1',k1,k2',k2,k3',go_sem_proc]
       refine Cl.pure TT 4000 (ref_Bool1 (decide (n < 0))) rfl rfl ?_
       simp only [go_sem,k3,hge,hle,hne,go_sem_proc]
       exact Le.refl _
      ·have k3':(a.k != b.k)=true:=by simp [k3]
       simp only [go_sem,k1',k1,k2',k2,k3',k3,go_sem_proc]
       exact Le.refl _
  ·simp only [go_sem,o1,o2,Bool.false_eq_true,go_sem_proc]
   by_cases k1:a.k=0
   ·have k1':(a.k == 0)=true:=by simp [k1]
    simp only [go_sem,k1',k1,go_sem_proc]
    exact Le.refl _
   ·have k1':(a.k == 0)=false:=by simp [k1]
    by_cases k2:b.k=0
    ·have k2':(b.k == 0)=true:=by simp [k2]
     simp only [go_sem,k1',k1,k2',k2,go_sem_proc]
     exact Le.refl _
    ·have k2':(b.k == 0)=false:=by simp [k2]
     by_cases k3:a.k=b.k
     ·have k3':(a.k != b.k)=false:=by simp [k3]
      simp only [go_sem,k1',k1,k2',k2,k3',go_sem_proc]
      refine Cl.pure TT 4000 (ref_Bool1 (n != 0)) rfl rfl ?_
      simp only [go_sem,k3,hge,hle,hne,go_sem_proc]
      exact Le.refl _
     ·have k3':(a.k != b.k)=true:=by simp [k3]
      simp only [go_sem,k1',k1,k2',k2,k3',k3,go_sem_proc]
      exact Le.refl _
 ·simp only [go_sem,o1,Bool.false_eq_true,go_sem_proc]
  by_cases k1:a.k=0
  ·have k1':(a.k == 0)=true:=by simp [k1]
   simp only [go_sem,k1',k1,go_sem_proc]
   exact Le.refl _
  ·have k1':(a.k == 0)=false:=by simp [k1]
   by_cases k2:b.k=0
   ·have k2':(b.k == 0)=true:=by simp [k2]
    simp only [go_sem,k1',k1,k2',k2,go_sem_proc]
    exact Le.refl _
   ·have k2':(b.k == 0)=false:=by simp [k2]
    by_cases k3:a.k=b.k
    ·have k3':(a.k != b.k)=false:=by simp [k3]
     simp only [go_sem,k1',k1,k2',k2,k3',go_sem_proc]
     refine Cl.pure TT 4000 (ref_Bool1 (n == 0)) rfl rfl ?_
     simp only [go_sem,k3,hge,hle,hne,go_sem_proc]
     exact Le.refl _
    ·have k3':(a.k != b.k)=true:=by simp [k3]
     simp only [go_sem,k1',k1,k2',k2,k3',k3,go_sem_proc]
     exact Le.refl _
theorem r02_In (v:Val) (l:List Val) (hb:l.length ≤ 1000000):Good Tryz.prog 84 [v.av,.c (rowC l)] [] (vals (inS v l).1 (inS v l).2) []:=by
 refine Good.of_vmQ TT 4000 Tryz.func84 rfl rfl ?_
 unfold Tryz.f84
 simp only [go_sem,go_sem_proc]
 refine Cl.pure TT 4000 (r02_may [v] (by simp)) rfl rfl ?_
 have hall:List.all [v] Val.ok=v.ok:=by simp
 rw [hall]
 unfold inS
 cases hv:v.ok
 ·simp only [go_sem,go_sem_proc]
  exact Le.refl _
 simp only [go_sem,go_sem_proc]
 refine Cl.pure TT 4000 (r02_may l hb) rfl rfl ?_
 cases hl:l.all Val.ok
 ·simp only [go_sem,go_sem_proc]
  exact Le.refl _
 simp only [go_sem,go_sem_proc]
 refine Lp.atP TT 4000 3 (Nat.le_of_ble_eq_true rfl) [false,false,false,false,false,true,true,false,true,true,true,false,false,false,false,false,false,false,false,false,false,false,false,true,true,true,true,true,true,true,true,true,true,true,true,true,true,true,true,true,true,true] (fun j:Nat=>l.length - j) (fun j=>j ≤ l.length ∧ ∀ (i:Nat) y,i < j → l[i]?=some y → (relS bEqs v y).2=0) (fun j=>[(6,.sl 3 0 j),(23,cI j)]) (fun j=>[.rows 3 26 ((l.take j).map (relC v))]) [3] (0) (⟨Nat.zero_le _,fun i x h=>absurd h (Nat.not_lt_zero _)⟩) ?_ ?_
 ·simp only [go_sem,go_sem_proc]
  first | done | rfl
 ·rintro j ⟨i1,i2⟩
  rcases Nat.lt_or_ge j l.length with hlt | hge
  ·obtain ⟨x,hx,hm,ht,hd⟩:=getS hlt
   have hw:=wrap_succ (j:=j) (by omega)
   have hmin:min j l.length=j:=Nat.min_eq_left (by omega)
   have hall:((l.take j).map (relC v)).all (fun y=>y.length == 3)=true:=List.all_eq_true.2 fun y hy=>by
    obtain ⟨z,_,rfl⟩:=List.mem_map.1 hy
    rfl
   simp only [go_sem,hlt,hx,go_sem_proc]
   refine Cl.pure TT 4000 (r02_Rel bEqs v x) rfl rfl ?_
   by_cases h0:(relS bEqs v x).2=0
   ·have h0':((relS bEqs v x).2 != 0)=false:=by simp [h0]
    have hnext:List.map (relC v) (l.take j) ++ [[.int .i64 (relS bEqs v x).1.k,.int .i64 (relS bEqs v x).1.i,.str (relS bEqs v x).1.s]]=List.map (relC v) (l.take (j + 1)):=by
     rw [ht,List.map_append];rfl
    simp only [go_sem,h0',hw,hmin,hall,List.length_map,List.length_take,Nat.zero_add,hnext,go_sem_proc]
    refine ⟨by omega,j + 1,[7],by omega,⟨by omega,fun i y hi hy=>?_⟩,rfl,⟨Fit1.of_eq rfl,Fit1.of_eq rfl⟩,rfl⟩
    rcases Nat.lt_or_ge i j with hij | hij
    ·exact i2 i y hij hy
    ·obtain rfl:i=j:=by omega
     rw [hx] at hy
     cases hy
     exact h0
   ·have h0':((relS bEqs v x).2 != 0)=true:=by simp [h0]
    have he:=inL_err v l j x hx i2 h0
    have h1:(inL v l).1 ≠ 0:=by rw [he];exact h0
    simp only [go_sem,h0',go_sem_proc]
    rw [if_neg h1,he]
    exact Le.refl _
  ·have:j=l.length:=by omega
   subst this
   have hI:=inL_ok v l fun i y hy=>i2 i y (List.getElem?_eq_some_iff.1 hy).1 hy
   have hO:=r02_Or (l.map fun x=>(relS bEqs v x).1) (by simpa using hb)
   rw [hI]
   rw [if_pos rfl]
   have hk4:List.take l.length (List.map (relC v) l)=(l.map fun x=>(relS bEqs v x).1).map Val.cs:=by
    rw [List.take_of_length_le (by simp),List.map_map];rfl
   generalize (l.map fun x=>(relS bEqs v x).1)=m at hO hk4
   simp only [go_sem,Nat.lt_irrefl,List.take_length,go_sem_proc]
   refine Cl.pure TT 4000 hO ?_ rfl ?_
   ·simp only [go_sem,hk4,Nat.zero_add,Nat.le_refl,go_sem_proc]
   ·simp only [go_sem,go_sem_proc]
    exact Le.refl _
end Go.Ev
end
