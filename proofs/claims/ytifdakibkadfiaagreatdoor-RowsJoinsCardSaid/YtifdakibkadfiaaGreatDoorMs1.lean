import Derived.Test.YtifdakibkadfiaaGreatDoorMe1
import Derived.Test.YtifdakibkadfiaaGreatDoorMe3
import Derived.Test.YtifdakibkadfiaaGreatDoorMe4
set_option linter.all false
set_option maxRecDepth 100000
set_option maxHeartbeats 8000000
section
open Go Go.Proofs
namespace Go.Ev
def stP (n:Nat) (m:List Bool) (t:List AV) (h:List zf) (V:List (Nat × AV)) (B:List zf):St:=⟨ye V (Zk m t),h.take n ++ B⟩
theorem zl1 {n:Nat} {m:List Bool} {t:List AV} {h:List zf} {V:List (Nat × AV)} {B:List zf}:stP n m t h V B=⟨ye V (Zk m t),h.take n ++ B⟩:=by rw [stP]
attribute [go_sem] zl1
theorem Lp.atP {G:Ctx} {K:List Fr} {t:List AV} {h:List zf} {c:Code} (T:zE G.P G.E) (k:Nat) (n:Nat) (hn:G.n ≤ n) (m:List Bool) {α:Type} (μ:α → Nat) (I:α → Prop) (V:α → List (Nat × AV)) (B:α → List zf) (js0:List Nat) (a0:α) (h0:I a0) (hs:zk6 n js0 ⟨t,h⟩ (stP n m t h (V a0) (B a0)))
  (round:∀ a,I a → vm G k (.code c) (.lp (fun s'=>∃ a' js,μ a' < μ a ∧ I a' ∧ zk6 n js s' (stP n m t h (V a') (B a'))) :: K) (stP n m t h (V a) (B a))):Lp G c K ⟨t,h⟩:=
 Lp.zmh T k n hn μ I (fun a=>stP n m t h (V a) (B a)) js0 a0 h0 hs round
end Go.Ev
end
section
open Go Go.Proofs
namespace Go.Ev
theorem JN (a b:Val):Good Tryz.prog 89 [a.av,b.av] [] (cB (a.same b)) []:=by
 refine Good.zg TT 4000 Tryz.func89 rfl rfl ?_
 unfold Tryz.f89
 simp only [go_sem,go_sem_proc]
 repeat' first | (refine wZ (by simp only [go_sem]) ?_ ?_ <;> intro hg <;> simp only [go_sem,hg,go_sem_proc]) | (refine QB ?_ ?_ <;> intro hg <;> simp only [go_sem,hg,go_sem_proc])
 all_goals refine Le.of_eq (congrArg cB ?_)
 all_goals simp_all [Val.same]
theorem yE (a b:Val):Good Tryz.prog 69 [a.av,b.av] [] (cI (a.cmp b)) []:=by
 refine Good.zg TT 4000 Tryz.func69 rfl rfl ?_
 unfold Tryz.f69
 simp only [go_sem,go_sem_proc]
 repeat' first | (refine wZ (by simp only [go_sem]) ?_ ?_ <;> intro hg <;> simp only [go_sem,hg,go_sem_proc]) | (refine QB ?_ ?_ <;> intro hg <;> simp only [go_sem,hg,go_sem_proc]) | (refine Cl.pure TT 4000 (JN a b) rfl rfl ?_;simp only [go_sem,go_sem_proc])
 all_goals refine Le.of_eq (congrArg cI ?_)
 all_goals simp_all [Val.cmp,Val.lt]
def xh:List Val → List Val → Int
 | [],[]=>0
 | [],_ :: _=>-1
 | _ :: _,[]=>1
 | a :: l,b :: m=>if a.cmp b ≠ 0 then a.cmp b else xh l m
theorem KY (l m:List Val):Good Tryz.prog 32 [.c (qk l),.c (qk m)] [] (cI (xh l m)) []:=by
 refine Good.bound (xs:=l.map Val.cs) (List.mem_cons_self ..) fun hl=>?_
 rw [List.length_map] at hl
 refine Good.zg TT 4000 Tryz.func32 rfl rfl ?_
 unfold Tryz.f32
 simp only [go_sem,go_sem_proc]
 refine Lp.fit TT 4000 0 (Nat.le_refl _) (fun j:Nat=>l.length - j) (fun j=>j ≤ l.length ∧ j ≤ m.length ∧ xh l m=xh (l.drop j) (m.drop j))
  (fun j=>⟨[.c (qk l),.c (qk m),.und,.und,cI 0,.dead,.dead,.c (qk l),cI l.length,cI j] ++ List.replicate 24 .dead,[]⟩) 0 ⟨Nat.zero_le _,Nat.zero_le _,by simp⟩ ?_ ?_
 ·simp only [go_sem,go_sem_proc]
 ·rintro j ⟨i1,i2,i3⟩
  rcases Nat.lt_or_ge j l.length with hlt | hge
  ·obtain ⟨x,hx,hm,ht,hd⟩:=vj hlt
   have hw:=zh (j:=j) (by omega)
   rcases Nat.lt_or_ge j m.length with hlt' | hge'
   ·obtain ⟨y,hy,hm',ht',hd'⟩:=vj hlt'
    rw [hd,hd'] at i3
    simp only [go_sem,hlt,hx,hw,ge_iff_le,Nat.not_le.2 hlt',go_sem_proc]
    (refine Dr.of TT (by kernel_rfl) [(69,[x.av,y.av],cI (x.cmp y))] ⟨⟨yE x y,rfl⟩,trivial⟩ ?_;simp only [go_sem,hlt,hx,hy,hlt',hw,go_sem_proc];refine jy.of TT 4000 (qn rfl) ?_;simp only [go_sem,hlt,hx,hy,hlt',hw,go_sem_proc])
    repeat' first | (refine wZ (by simp only [go_sem]) ?_ ?_ <;> intro hg <;> simp only [go_sem,hg,hw,go_sem_proc]) | (refine QB ?_ ?_ <;> intro hg <;> simp only [go_sem,hg,hw,go_sem_proc])
    ·simp only [bne_iff_ne,ne_eq] at hg
     refine Le.of_eq (congrArg cI ?_)
     rw [i3,xh,if_pos hg]
    ·have hg':x.cmp y=0:=by simpa using hg
     exact ⟨j + 1,by omega,⟨by omega,by omega,by rw [i3,xh,if_neg (by simp [hg'])]⟩,zq.of_eq rfl⟩
   ·simp only [go_sem,hlt,hx,hw,ge_iff_le,hge',go_sem_proc]
    rw [show m.drop j=[] from List.drop_of_length_le hge',hd] at i3
    refine Le.of_eq (congrArg cI ?_)
    rw [i3];rfl
  ·simp only [go_sem,Nat.not_lt.2 hge,go_sem_proc]
   rw [show l.drop j=[] from List.drop_of_length_le hge] at i3
   rcases Nat.lt_or_ge l.length m.length with h | h
   ·simp only [go_sem,h,go_sem_proc]
    refine Le.of_eq (congrArg cI ?_)
    obtain ⟨y,hy,hm',ht',hd'⟩:=vj (l:=m) (j:=j) (by omega)
    rw [i3,hd'];rfl
   ·simp only [go_sem,Nat.not_lt.2 h,go_sem_proc]
    refine Le.of_eq (congrArg cI ?_)
    rw [i3,List.drop_of_length_le (by omega)];rfl
end Go.Ev
end
section
open Go Go.Proofs
namespace Go.Ev
theorem qb (b:Bool):Good Tryz.prog 90 [cB b] [] (zZ b).av []:=by
 refine Good.zg TT 4000 Tryz.func90 rfl rfl ?_
 unfold Tryz.f90
 cases b <;> simp only [go_sem,go_sem_proc]
 ·exact Le.refl _
 ·exact Le.refl _
theorem JB (l:List Val) (hb:l.length ≤ 1000000):Good Tryz.prog 122 [.c (qk l)] [] (cB (l.all Val.ok)) []:=by
 refine Good.zg TT 4000 Tryz.func122 rfl rfl ?_
 unfold Tryz.f122
 simp only [go_sem,go_sem_proc]
 refine Lp.at TT 4000 0 (Nat.le_of_ble_eq_true rfl) [false,false,true,false,true,false,false,true,true,true,true,true,true,true,true] (fun j:Nat=>l.length - j) (fun j=>j ≤ l.length ∧ (l.take j).all Val.ok=true) (fun j=>[(7,cI j)]) (fun _=>[]) (0) (⟨Nat.zero_le _,rfl⟩) ?_ ?_
 ·simp only [go_sem,go_sem_proc]
 ·rintro j ⟨i1,i2⟩
  rcases Nat.lt_or_ge j l.length with hlt | hge
  ·obtain ⟨x,hx,hm,ht,hd⟩:=vj hlt
   have hw:=zh (j:=j) (by omega)
   simp only [go_sem,hlt,hx,go_sem_proc]
   refine Cl.pure TT 4000 (ZA x) rfl rfl ?_
   cases hk:x.ok
   ·have:l.all Val.ok=false:=List.all_eq_false.2 ⟨x,hm,by rw [hk];simp⟩
    simp only [go_sem,hk,this,Bool.false_eq_true,go_sem_proc]
   ·simp only [go_sem,hk,hw,go_sem_proc]
    exact ⟨j + 1,by omega,⟨by omega,by rw [ht,List.all_append,i2];simp [hk]⟩,zq.of_eq rfl⟩
  ·have:j=l.length:=by omega
   subst this
   rw [List.take_length] at i2
   simp only [go_sem,Nat.lt_irrefl,i2,go_sem_proc]
def trL:List Val → Bool → Bool → Bool → Bool × Bool × Bool × Int
 | [],n,o,y=>(n,o,y,0)
 | v :: l,n,o,y=>if v.k=0 then trL l true o y else if v.k ≠ 1 then (false,false,false,20) else if v.i=0 then trL l n true y else trL l n o true
def trS (l:List Val):Bool × Bool × Bool × Int:=if l.all Val.ok then trL l false false false else (false,false,false,1)
abbrev zm3 (t:Bool × Bool × Bool × Int):AV:=.tup [cB t.1,cB t.2.1,cB t.2.2.1,cI t.2.2.2]
theorem ZW (l:List Val) (hb:l.length ≤ 1000000):Good Tryz.prog 123 [.c (qk l)] [] (zm3 (trS l)) []:=by
 refine Good.zg TT 4000 Tryz.func123 rfl rfl ?_
 unfold Tryz.f123
 simp only [go_sem,go_sem_proc]
 refine Cl.pure TT 4000 (JB l hb) rfl rfl ?_
 unfold trS
 cases hk:l.all Val.ok
 ·simp only [go_sem,go_sem_proc]
 simp only [go_sem,go_sem_proc]
 refine Lp.at TT 4000 0 (Nat.le_of_ble_eq_true rfl) [false,false,true,true,true,true,true,true,true,false,true,false,false,false,false,false,true,true,true,true,true,true,true,true,true,true,true,true,true,true,true,true,true] (fun a:Nat × Bool × Bool × Bool=>l.length - a.1) (fun a=>a.1 ≤ l.length ∧ trL l false false false=trL (l.drop a.1) a.2.1 a.2.2.1 a.2.2.2) (fun a=>[(6,cB a.2.1),(7,cB a.2.2.1),(8,cB a.2.2.2),(16,cI a.1)]) (fun _=>[]) ((0,false,false,false)) (⟨Nat.zero_le _,rfl⟩) ?_ ?_
 ·simp only [go_sem,go_sem_proc]
 ·rintro ⟨j,n,o,y⟩ ⟨i1,i2⟩
  simp only at i1 i2
  rcases Nat.lt_or_ge j l.length with hlt | hge
  ·obtain ⟨x,hx,hm,ht,hd⟩:=vj hlt
   have hw:=zh (j:=j) (by omega)
   rw [hd,trL] at i2
   by_cases k0:x.k=0
   ·have k0':(x.k == 0)=true:=by simp [k0]
    simp only [go_sem,hlt,hx,k0',hw,go_sem_proc]
    exact ⟨(j + 1,true,o,y),by simp only;omega,⟨by simp only;omega,by simp only;rw [i2,if_pos k0]⟩,by simp only [go_sem,go_sem_proc]⟩
   ·have k0':(x.k == 0)=false:=by simp [k0]
    by_cases k1:x.k=1
    ·have k1':(x.k != 1)=false:=by simp [k1]
     by_cases z:x.i=0
     ·have z':(x.i == 0)=true:=by simp [z]
      simp only [go_sem,hlt,hx,k0',k1',z',hw,go_sem_proc]
      exact ⟨(j + 1,n,true,y),by simp only;omega,⟨by simp only;omega,by simp only;rw [i2,if_neg k0,if_neg (by simp [k1]),if_pos z]⟩,by simp only [go_sem,go_sem_proc]⟩
     ·have z':(x.i == 0)=false:=by simp [z]
      simp only [go_sem,hlt,hx,k0',k1',z',hw,go_sem_proc]
      exact ⟨(j + 1,n,o,true),by simp only;omega,⟨by simp only;omega,by simp only;rw [i2,if_neg k0,if_neg (by simp [k1]),if_neg z]⟩,by simp only [go_sem,go_sem_proc]⟩
    ·have k1':(x.k != 1)=true:=by simp [k1]
     simp only [go_sem,hlt,hx,k0',k1',go_sem_proc]
     rw [i2,if_neg k0,if_pos k1]
     exact Le.refl _
  ·have:j=l.length:=by omega
   subst this
   rw [List.drop_of_length_le (Nat.le_refl _),trL] at i2
   simp only [go_sem,Nat.lt_irrefl,i2,go_sem_proc]
end Go.Ev
end
section
open Go Go.Proofs
namespace Go.Ev
theorem Yq {v:Val} (h:v.ok=true) (hk:v.k=1):(v.i=0 ∨ v.i=1) ∧ v.s=⟨#[]⟩:=by
 obtain ⟨k,i,s⟩:=v
 simp only at hk
 subst hk
 have h2:((i == 0 || i == 1) && s.size == 0)=true:=by
  unfold Val.ok at h
  simpa using h
 simp only [Bool.and_eq_true,Bool.or_eq_true,beq_iff_eq] at h2
 refine ⟨h2.1,zet (by have:=h2.2;show ¬ 0 < s.size;omega)⟩
theorem zib {v:Val} (h:v.ok=true) (hk:v.k=1) (hi:v.i=0):v=zZ false:=by
 obtain ⟨k,i,s⟩:=v
 have:=(Yq h hk).2
 simp only at hk hi this
 subst hk hi this;rfl
theorem zkI {v:Val} (h:v.ok=true) (hk:v.k=1) (hi:v.i ≠ 0):v=zZ true ∧ v.i=1:=by
 have h1:=(Yq h hk).1
 have h2:v.i=1:=by omega
 obtain ⟨k,i,s⟩:=v
 have:=(Yq h hk).2
 simp only at hk h2 this
 subst hk h2 this;exact ⟨rfl,rfl⟩
theorem Js {v:Val} (l:List Val) (n o y:Bool) (k:v.k=0):trL (v :: l) n o y=trL l true o y:=by rw [trL,if_pos k]
theorem zaQ {v:Val} (l:List Val) (n o y:Bool) (k:v.k ≠ 0) (k1:v.k ≠ 1):trL (v :: l) n o y=(false,false,false,20):=by rw [trL,if_neg k,if_pos k1]
theorem zei {v:Val} (l:List Val) (n o y:Bool) (k1:v.k=1) (z:v.i=0):trL (v :: l) n o y=trL l n true y:=by rw [trL,if_neg (by omega),if_neg (by simp [k1]),if_pos z]
theorem zaw {v:Val} (l:List Val) (n o y:Bool) (k1:v.k=1) (z:v.i ≠ 0):trL (v :: l) n o y=trL l n o true:=by rw [trL,if_neg (by omega),if_neg (by simp [k1]),if_neg z]
theorem zbn {v:Val} (d:Int) (l:List Val) (out:Val) (dec:Bool) (k:v.k=0):lgL d (v :: l) out dec=lgL d l (if dec then out else zeroV) dec:=by rw [lgL,if_neg (by omega),if_pos k]
theorem zhd {v:Val} (d:Int) (l:List Val) (out:Val) (dec:Bool) (k:v.k ≠ 0) (k1:v.k ≠ 1):lgL d (v :: l) out dec=(zeroV,20):=by rw [lgL,if_pos ⟨k,k1⟩]
theorem zeE {v:Val} (d:Int) (l:List Val) (out:Val) (dec:Bool) (k1:v.k=1) (z:v.i=d):lgL d (v :: l) out dec=lgL d l v true:=by rw [lgL,if_neg (by omega),if_neg (by omega),if_pos z]
theorem zbZ {v:Val} (d:Int) (l:List Val) (out:Val) (dec:Bool) (k1:v.k=1) (z:v.i ≠ d):lgL d (v :: l) out dec=lgL d l out dec:=by rw [lgL,if_neg (by omega),if_neg (by omega),if_neg z]
def zmk (t:Bool × Bool × Bool × Int):Val × Int:=if t.2.2.2 ≠ 0 ∨ (t.1=true ∧ t.2.1=false) then (zeroV,t.2.2.2) else (zZ (!t.2.1),0)
def orT (t:Bool × Bool × Bool × Int):Val × Int:=if t.2.2.2 ≠ 0 ∨ (t.1=true ∧ t.2.2.1=false) then (zeroV,t.2.2.2) else (zZ t.2.2.1,0)
theorem ziC:∀ (l:List Val) (n o y:Bool),(∀ v,v ∈ l → v.ok=true) →
  lgL 0 l (if o then zZ false else if n then zeroV else zZ true) o=zmk (trL l n o y)
 | [],n,o,y,_=>by cases o <;> cases n <;> rfl
 | v :: l,n,o,y,h=>by
  have hv:=h v (by simp)
  have hl:∀ x,x ∈ l → x.ok=true:=fun x hx=>h x (List.mem_cons_of_mem _ hx)
  by_cases k0:v.k=0
  ·rw [zbn _ _ _ _ k0,Js _ _ _ _ k0,← ziC l true o y hl]
   cases o <;> rfl
  ·by_cases k1:v.k=1
   ·by_cases i0:v.i=0
    ·rw [zeE _ _ _ _ k1 i0,zei _ _ _ _ k1 i0,← ziC l n true y hl,zib hv k1 i0];rfl
    ·rw [zbZ _ _ _ _ k1 i0,zaw _ _ _ _ k1 i0,← ziC l n o true hl]
   ·rw [zhd _ _ _ _ k0 k1,zaQ _ _ _ _ k0 k1];rfl
theorem zhq:∀ (l:List Val) (n o y:Bool),(∀ v,v ∈ l → v.ok=true) →
  lgL 1 l (if y then zZ true else if n then zeroV else zZ false) y=orT (trL l n o y)
 | [],n,o,y,_=>by cases y <;> cases n <;> rfl
 | v :: l,n,o,y,h=>by
  have hv:=h v (by simp)
  have hl:∀ x,x ∈ l → x.ok=true:=fun x hx=>h x (List.mem_cons_of_mem _ hx)
  by_cases k0:v.k=0
  ·rw [zbn _ _ _ _ k0,Js _ _ _ _ k0,← zhq l true o y hl]
   cases y <;> rfl
  ·by_cases k1:v.k=1
   ·by_cases i0:v.i=0
    ·rw [zbZ _ _ _ _ k1 (by omega),zei _ _ _ _ k1 i0,← zhq l n true y hl]
    ·obtain ⟨g1,g2⟩:=zkI hv k1 i0
     rw [zeE _ _ _ _ k1 g2,zaw _ _ _ _ k1 i0,← zhq l n o true hl]
     rw [g1];rfl
   ·rw [zhd _ _ _ _ k0 k1,zaQ _ _ _ _ k0 k1];rfl
theorem zjG (l:List Val):lgS 0 l=zmk (trS l):=by
 unfold lgS trS
 cases h:l.all Val.ok
 ·rfl
 ·exact ziC l false false false (List.all_eq_true.1 h)
theorem zmu (l:List Val):lgS 1 l=orT (trS l):=by
 unfold lgS trS
 cases h:l.all Val.ok
 ·rfl
 ·exact zhq l false false false (List.all_eq_true.1 h)
theorem zgf (l:List Val) (hb:l.length ≤ 1000000):Good Tryz.prog 83 [.c (qk l)] [] (qY (lgS 0 l).1 (lgS 0 l).2) []:=by
 rw [zjG]
 refine Good.zg TT 4000 Tryz.func83 rfl rfl ?_
 unfold Tryz.f83
 simp only [go_sem,go_sem_proc]
 refine Cl.pure TT 4000 (ZW l hb) rfl rfl ?_
 generalize trS l=t
 obtain ⟨n,o,y,e⟩:=t
 simp only [zmk,orT]
 by_cases he:e=0
 ·subst he
  cases n <;> cases o <;> simp only [go_sem,go_sem_proc]
  ·(refine Cl.pure TT 4000 (qb true) rfl rfl ?_;simp only [go_sem,go_sem_proc])
   exact Le.refl _
  ·(refine Cl.pure TT 4000 (qb false) rfl rfl ?_;simp only [go_sem,go_sem_proc])
   exact Le.refl _
  ·exact Le.refl _
  ·(refine Cl.pure TT 4000 (qb false) rfl rfl ?_;simp only [go_sem,go_sem_proc])
   exact Le.refl _
 ·have he':(e != 0)=true:=by simp [he]
  simp only [go_sem,he',he,go_sem_proc]
  exact Le.refl _
theorem zjV (l:List Val) (hb:l.length ≤ 1000000):Good Tryz.prog 117 [.c (qk l)] [] (qY (lgS 1 l).1 (lgS 1 l).2) []:=by
 rw [zmu]
 refine Good.zg TT 4000 Tryz.func117 rfl rfl ?_
 unfold Tryz.f117
 simp only [go_sem,go_sem_proc]
 refine Cl.pure TT 4000 (ZW l hb) rfl rfl ?_
 generalize trS l=t
 obtain ⟨n,o,y,e⟩:=t
 simp only [zmk,orT]
 by_cases he:e=0
 ·subst he
  cases n <;> cases y <;> simp only [go_sem,go_sem_proc]
  ·(refine Cl.pure TT 4000 (qb false) rfl rfl ?_;simp only [go_sem,go_sem_proc])
   exact Le.refl _
  ·(refine Cl.pure TT 4000 (qb true) rfl rfl ?_;simp only [go_sem,go_sem_proc])
   exact Le.refl _
  ·exact Le.refl _
  ·(refine Cl.pure TT 4000 (qb true) rfl rfl ?_;simp only [go_sem,go_sem_proc])
   exact Le.refl _
 ·have he':(e != 0)=true:=by simp [he]
  simp only [go_sem,he',he,go_sem_proc]
  exact Le.refl _
theorem zlp (v:Val):zec v=(if (trS [v]).2.2.2 ≠ 0 ∨ (trS [v]).1=true then (zeroV,(trS [v]).2.2.2) else (zZ (trS [v]).2.1,0)):=by
 unfold zec
 rw [zjG]
 unfold trS
 cases h:[v].all Val.ok
 ·rfl
 ·have hv:v.ok=true:=by simpa using h
  rw [if_pos rfl]
  by_cases k0:v.k=0
  ·rw [Js _ _ _ _ k0];rfl
  ·by_cases k1:v.k=1
   ·by_cases i0:v.i=0
    ·rw [zei _ _ _ _ k1 i0];rfl
    ·rw [zaw _ _ _ _ k1 i0];rfl
   ·rw [zaQ _ _ _ _ k0 k1];rfl
theorem zj2 (v:Val):Good Tryz.prog 116 [v.av] [] (qY (zec v).1 (zec v).2) []:=by
 rw [zlp]
 refine Good.zg TT 4000 Tryz.func116 rfl rfl ?_
 unfold Tryz.f116
 simp only [go_sem,go_sem_proc]
 refine Cl.pure TT 4000 (ZW [v] (by simp)) rfl rfl ?_
 generalize trS [v]=t
 obtain ⟨n,o,y,e⟩:=t
 by_cases he:e=0
 ·subst he
  cases n <;> simp only [go_sem,go_sem_proc]
  ·(refine Cl.pure TT 4000 (qb o) rfl rfl ?_;simp only [go_sem,go_sem_proc])
   exact Le.refl _
  ·exact Le.refl _
 ·have he':(e != 0)=true:=by simp [he]
  simp only [go_sem,he',he,go_sem_proc]
  exact Le.refl _
end Go.Ev
end
section
open Go Go.Proofs
namespace Go.Ev
theorem J5 (op:ByteArray) (a b:Val):Good Tryz.prog 82 [cS op,a.av,b.av] [] (qY (qX op a b).1 (qX op a b).2) []:=by
 refine Good.zg TT 4000 Tryz.func82 rfl rfl ?_
 unfold Tryz.f82
 simp only [go_sem,go_sem_proc]
 refine Cl.pure TT 4000 (JB [a,b] (by simp)) rfl rfl ?_
 have hall:List.all [a,b] Val.ok=(a.ok && b.ok):=by simp
 rw [hall]
 unfold qX
 cases hk:(a.ok && b.ok)
 ·simp only [go_sem,go_sem_proc]
  exact Le.refl _
 simp only [go_sem,go_sem_proc]
 refine Cl.pure TT 4000 (yE a b) rfl rfl ?_
 unfold zmC
 generalize a.cmp b=n
 have hge:decide (n ≥ 0) = !decide (n < 0):=by by_cases h:n < 0 <;> simp [h] <;> omega
 have hle:decide (n ≤ 0) = !decide (n > 0):=by by_cases h:n > 0 <;> simp [h] <;> omega
 have hne:(n != 0) = !(n == 0):=rfl
 cases o1:(op.toList == (⟨#[61]⟩:ByteArray).toList)
 ·skip
  cases o2:(op.toList == (⟨#[60,62]⟩:ByteArray).toList)
  ·skip
   cases o3:(op.toList == (⟨#[60]⟩:ByteArray).toList)
   ·skip
    cases o4:(op.toList == (⟨#[62,61]⟩:ByteArray).toList)
    ·skip
     cases o5:(op.toList == (⟨#[62]⟩:ByteArray).toList)
     ·skip
      cases o6:(op.toList == (⟨#[60,61]⟩:ByteArray).toList)
      ·skip
       simp only [go_sem,o1,o2,o3,o4,o5,o6,Bool.false_eq_true,go_sem_proc]
       exact Le.refl _
      ·simp only [go_sem,o1,o2,o3,o4,o5,o6,Bool.false_eq_true,go_sem_proc]
       by_cases k1:a.k=0
       ·have k1':(a.k == 0)=true:=by simp [k1]
        simp only [go_sem,k1',k1,go_sem_proc]
        exact Le.refl _
       ·have k1':(a.k == 0)=false:=by simp [k1]
        by_cases k2:b.k=0
        ·have k2':(b.k == 0)=true:=by simp [k2]
         simp only [go_sem,k1',k1,k2',k2,go_sem_proc]
         exact Le.refl _
        ·have k2':(b.k == 0)=false:=by simp [k2]
         by_cases k3:a.k=b.k
         ·have k3':(a.k != b.k)=false:=by simp [k3]
          simp only [go_sem,k1',k1,k2',k2,k3',go_sem_proc]
          refine Cl.pure TT 4000 (qb (decide (n ≤ 0))) rfl rfl ?_
          simp only [go_sem,k3,hge,hle,hne,go_sem_proc]
          exact Le.refl _
         ·have k3':(a.k != b.k)=true:=by simp [k3]
          simp only [go_sem,k1',k1,k2',k2,k3',k3,go_sem_proc]
          exact Le.refl _
     ·have o6:(op.toList == (⟨#[60,61]⟩:ByteArray).toList)=false:=by rw [eq_of_beq o5];exact (zF [62] [60,61]).trans rfl
      simp only [go_sem,o1,o2,o3,o4,o5,o6,Bool.false_eq_true,go_sem_proc]
      by_cases k1:a.k=0
      ·have k1':(a.k == 0)=true:=by simp [k1]
       simp only [go_sem,k1',k1,go_sem_proc]
       exact Le.refl _
      ·have k1':(a.k == 0)=false:=by simp [k1]
       by_cases k2:b.k=0
       ·have k2':(b.k == 0)=true:=by simp [k2]
        simp only [go_sem,k1',k1,k2',k2,go_sem_proc]
        exact Le.refl _
       ·have k2':(b.k == 0)=false:=by simp [k2]
        by_cases k3:a.k=b.k
        ·have k3':(a.k != b.k)=false:=by simp [k3]
         simp only [go_sem,k1',k1,k2',k2,k3',go_sem_proc]
         refine Cl.pure TT 4000 (qb (decide (n > 0))) rfl rfl ?_
         simp only [go_sem,k3,hge,hle,hne,go_sem_proc]
         exact Le.refl _
        ·have k3':(a.k != b.k)=true:=by simp [k3]
         simp only [go_sem,k1',k1,k2',k2,k3',k3,go_sem_proc]
         exact Le.refl _
    ·have o6:(op.toList == (⟨#[60,61]⟩:ByteArray).toList)=false:=by rw [eq_of_beq o4];exact (zF [62,61] [60,61]).trans rfl
     have o5:(op.toList == (⟨#[62]⟩:ByteArray).toList)=false:=by rw [eq_of_beq o4];exact (zF [62,61] [62]).trans rfl
     simp only [go_sem,o1,o2,o3,o4,o5,o6,Bool.false_eq_true,go_sem_proc]
     by_cases k1:a.k=0
     ·have k1':(a.k == 0)=true:=by simp [k1]
      simp only [go_sem,k1',k1,go_sem_proc]
      exact Le.refl _
     ·have k1':(a.k == 0)=false:=by simp [k1]
      by_cases k2:b.k=0
      ·have k2':(b.k == 0)=true:=by simp [k2]
       simp only [go_sem,k1',k1,k2',k2,go_sem_proc]
       exact Le.refl _
      ·have k2':(b.k == 0)=false:=by simp [k2]
       by_cases k3:a.k=b.k
       ·have k3':(a.k != b.k)=false:=by simp [k3]
        simp only [go_sem,k1',k1,k2',k2,k3',go_sem_proc]
        refine Cl.pure TT 4000 (qb (decide (n ≥ 0))) rfl rfl ?_
        simp only [go_sem,k3,hge,hle,hne,go_sem_proc]
        exact Le.refl _
       ·have k3':(a.k != b.k)=true:=by simp [k3]
        simp only [go_sem,k1',k1,k2',k2,k3',k3,go_sem_proc]
        exact Le.refl _
   ·simp only [go_sem,o1,o2,o3,Bool.false_eq_true,go_sem_proc]
    by_cases k1:a.k=0
    ·have k1':(a.k == 0)=true:=by simp [k1]
     simp only [go_sem,k1',k1,go_sem_proc]
     exact Le.refl _
    ·have k1':(a.k == 0)=false:=by simp [k1]
     by_cases k2:b.k=0
     ·have k2':(b.k == 0)=true:=by simp [k2]
      simp only [go_sem,k1',k1,k2',k2,go_sem_proc]
      exact Le.refl _
     ·have k2':(b.k == 0)=false:=by simp [k2]
      by_cases k3:a.k=b.k
      ·have k3':(a.k != b.k)=false:=by simp [k3]
       simp only [go_sem,k1',k1,k2',k2,k3',go_sem_proc]
       refine Cl.pure TT 4000 (qb (decide (n < 0))) rfl rfl ?_
       simp only [go_sem,k3,hge,hle,hne,go_sem_proc]
       exact Le.refl _
      ·have k3':(a.k != b.k)=true:=by simp [k3]
       simp only [go_sem,k1',k1,k2',k2,k3',k3,go_sem_proc]
       exact Le.refl _
  ·simp only [go_sem,o1,o2,Bool.false_eq_true,go_sem_proc]
   by_cases k1:a.k=0
   ·have k1':(a.k == 0)=true:=by simp [k1]
    simp only [go_sem,k1',k1,go_sem_proc]
    exact Le.refl _
   ·have k1':(a.k == 0)=false:=by simp [k1]
    by_cases k2:b.k=0
    ·have k2':(b.k == 0)=true:=by simp [k2]
     simp only [go_sem,k1',k1,k2',k2,go_sem_proc]
     exact Le.refl _
    ·have k2':(b.k == 0)=false:=by simp [k2]
     by_cases k3:a.k=b.k
     ·have k3':(a.k != b.k)=false:=by simp [k3]
      simp only [go_sem,k1',k1,k2',k2,k3',go_sem_proc]
      refine Cl.pure TT 4000 (qb (n != 0)) rfl rfl ?_
      simp only [go_sem,k3,hge,hle,hne,go_sem_proc]
      exact Le.refl _
     ·have k3':(a.k != b.k)=true:=by simp [k3]
      simp only [go_sem,k1',k1,k2',k2,k3',k3,go_sem_proc]
      exact Le.refl _
 ·simp only [go_sem,o1,Bool.false_eq_true,go_sem_proc]
  by_cases k1:a.k=0
  ·have k1':(a.k == 0)=true:=by simp [k1]
   simp only [go_sem,k1',k1,go_sem_proc]
   exact Le.refl _
  ·have k1':(a.k == 0)=false:=by simp [k1]
   by_cases k2:b.k=0
   ·have k2':(b.k == 0)=true:=by simp [k2]
    simp only [go_sem,k1',k1,k2',k2,go_sem_proc]
    exact Le.refl _
   ·have k2':(b.k == 0)=false:=by simp [k2]
    by_cases k3:a.k=b.k
    ·have k3':(a.k != b.k)=false:=by simp [k3]
     simp only [go_sem,k1',k1,k2',k2,k3',go_sem_proc]
     refine Cl.pure TT 4000 (qb (n == 0)) rfl rfl ?_
     simp only [go_sem,k3,hge,hle,hne,go_sem_proc]
     exact Le.refl _
    ·have k3':(a.k != b.k)=true:=by simp [k3]
     simp only [go_sem,k1',k1,k2',k2,k3',k3,go_sem_proc]
     exact Le.refl _
theorem zlJ (v:Val) (l:List Val) (hb:l.length ≤ 1000000):Good Tryz.prog 84 [v.av,.c (qk l)] [] (qY (inS v l).1 (inS v l).2) []:=by
 refine Good.zg TT 4000 Tryz.func84 rfl rfl ?_
 unfold Tryz.f84
 simp only [go_sem,go_sem_proc]
 refine Cl.pure TT 4000 (JB [v] (by simp)) rfl rfl ?_
 have hall:List.all [v] Val.ok=v.ok:=by simp
 rw [hall]
 unfold inS
 cases hv:v.ok
 ·simp only [go_sem,go_sem_proc]
  exact Le.refl _
 simp only [go_sem,go_sem_proc]
 refine Cl.pure TT 4000 (JB l hb) rfl rfl ?_
 cases hl:l.all Val.ok
 ·simp only [go_sem,go_sem_proc]
  exact Le.refl _
 simp only [go_sem,go_sem_proc]
 refine Lp.atP TT 4000 3 (Nat.le_of_ble_eq_true rfl) [false,false,false,false,false,true,true,false,true,true,true,false,false,false,false,false,false,false,false,false,false,false,false,true,true,true,true,true,true,true,true,true,true,true,true,true,true,true,true,true,true,true] (fun j:Nat=>l.length - j) (fun j=>j ≤ l.length ∧ ∀ (i:Nat) y,i < j → l[i]?=some y → (qX Zd v y).2=0) (fun j=>[(6,.sl 3 0 j),(23,cI j)]) (fun j=>[.rows 3 26 ((l.take j).map (zfY v))]) [3] (0) (⟨Nat.zero_le _,fun i x h=>absurd h (Nat.not_lt_zero _)⟩) ?_ ?_
 ·simp only [go_sem,go_sem_proc]
  first | done | rfl
 ·rintro j ⟨i1,i2⟩
  rcases Nat.lt_or_ge j l.length with hlt | hge
  ·obtain ⟨x,hx,hm,ht,hd⟩:=vj hlt
   have hw:=zh (j:=j) (by omega)
   have hmin:min j l.length=j:=Nat.min_eq_left (by omega)
   have hall:((l.take j).map (zfY v)).all (fun y=>y.length == 3)=true:=List.all_eq_true.2 fun y hy=>by
    obtain ⟨z,_,rfl⟩:=List.mem_map.1 hy
    rfl
   simp only [go_sem,hlt,hx,go_sem_proc]
   refine Cl.pure TT 4000 (J5 Zd v x) rfl rfl ?_
   by_cases h0:(qX Zd v x).2=0
   ·have h0':((qX Zd v x).2 != 0)=false:=by simp [h0]
    have hnext:List.map (zfY v) (l.take j) ++ [[.int .i64 (qX Zd v x).1.k,.int .i64 (qX Zd v x).1.i,.str (qX Zd v x).1.s]]=List.map (zfY v) (l.take (j + 1)):=by
     rw [ht,List.map_append];rfl
    simp only [go_sem,h0',hw,hmin,hall,List.length_map,List.length_take,Nat.zero_add,hnext,go_sem_proc]
    refine ⟨by omega,j + 1,[7],by omega,⟨by omega,fun i y hi hy=>?_⟩,rfl,⟨zq.of_eq rfl,zq.of_eq rfl⟩,rfl⟩
    rcases Nat.lt_or_ge i j with hij | hij
    ·exact i2 i y hij hy
    ·obtain rfl:i=j:=by omega
     rw [hx] at hy
     cases hy
     exact h0
   ·have h0':((qX Zd v x).2 != 0)=true:=by simp [h0]
    have he:=Y4 v l j x hx i2 h0
    have h1:(inL v l).1 ≠ 0:=by rw [he];exact h0
    simp only [go_sem,h0',go_sem_proc]
    rw [if_neg h1,he]
    exact Le.refl _
  ·have:j=l.length:=by omega
   subst this
   have hI:=zgj v l fun i y hy=>i2 i y (List.getElem?_eq_some_iff.1 hy).1 hy
   have hO:=zjV (l.map fun x=>(qX Zd v x).1) (by simpa using hb)
   rw [hI]
   rw [if_pos rfl]
   have hk4:List.take l.length (List.map (zfY v) l)=(l.map fun x=>(qX Zd v x).1).map Val.cs:=by
    rw [List.take_of_length_le (by simp),List.map_map];rfl
   generalize (l.map fun x=>(qX Zd v x).1)=m at hO hk4
   simp only [go_sem,Nat.lt_irrefl,List.take_length,go_sem_proc]
   refine Cl.pure TT 4000 hO ?_ rfl ?_
   ·simp only [go_sem,hk4,Nat.zero_add,Nat.le_refl,go_sem_proc]
   ·simp only [go_sem,go_sem_proc]
    exact Le.refl _
end Go.Ev
end
