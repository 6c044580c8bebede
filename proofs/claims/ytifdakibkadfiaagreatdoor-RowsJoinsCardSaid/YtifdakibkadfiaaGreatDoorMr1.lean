import Derived.Test.YtifdakibkadfiaaGreatDoorMe2
import Derived.Test.YtifdakibkadfiaaGreatDoorMe1
set_option linter.all false
set_option maxRecDepth 100000
set_option maxHeartbeats 8000000
section
open Go Go.Proofs
namespace Go.Ev
def zlb (c:Int):Bool:=decide (48 ≤ c) && decide (c ≤ 57)
def zlR (c:Int):Bool:=(decide (97 ≤ c) && decide (c ≤ 122)) || (decide (65 ≤ c) && decide (c ≤ 90)) || c == 95
theorem yM (c:Int):Good Tryz.prog 184 [.c (.int .u8 c)] [] (cB (zlb c)) []:=by
 refine Good.zg TT 4000 Tryz.func184 rfl rfl ?_
 unfold Tryz.f184
 simp only [go_sem,go_sem_proc]
 repeat' first | (refine wZ (by simp only [go_sem]) ?_ ?_ <;> intro hg <;> simp only [go_sem,hg,go_sem_proc]) | (refine QB ?_ ?_ <;> intro hg <;> simp only [go_sem,hg,go_sem_proc])
 all_goals refine Le.of_eq (congrArg cB ?_)
 all_goals simp_all [zlb]
 all_goals first | done | omega
theorem zdD (c:Int):Good Tryz.prog 186 [.c (.int .u8 c)] [] (cB (zlR c)) []:=by
 refine Good.zg TT 4000 Tryz.func186 rfl rfl ?_
 unfold Tryz.f186
 simp only [go_sem,go_sem_proc]
 repeat' first | (refine wZ (by simp only [go_sem]) ?_ ?_ <;> intro hg <;> simp only [go_sem,hg,go_sem_proc]) | (refine QB ?_ ?_ <;> intro hg <;> simp only [go_sem,hg,go_sem_proc])
 all_goals refine Le.of_eq (congrArg cB ?_)
 all_goals simp_all [zlR]
 all_goals first | done | omega
def jx (s:ByteArray) (l:List ByteArray):Bool:=l.any fun t=>s.toList == t.toList
abbrev zmI (l:List ByteArray):CV:=.lst 1 false (l.map fun t=>[.str t])
theorem KO (s:ByteArray) (l:List ByteArray) (hl:l.length ≤ 1000000):Good Tryz.prog 44 [cS s,.c (zmI l)] [] (cB (jx s l)) []:=by
 refine Good.zg TT 4000 Tryz.func44 rfl rfl ?_
 unfold Tryz.f44
 simp only [go_sem,go_sem_proc]
 refine Lp.at TT 4000 0 (Nat.le_of_ble_eq_true rfl) [false,false,false,false,true,false,true,false,false,true,true,true,true,true,true,true,true] (fun j:Nat=>l.length - j) (fun j=>j ≤ l.length ∧ (l.take j).any (fun t=>s.toList == t.toList)=false) (fun j=>[(9,cI j)]) (fun _=>[]) (0) (⟨Nat.zero_le _,by simp⟩) ?_ ?_
 ·simp only [go_sem,go_sem_proc]
 ·rintro j ⟨i1,i2⟩
  rcases Nat.lt_or_ge j l.length with hlt | hge
  ·obtain ⟨x,hx,hm,ht,hd⟩:=vj hlt
   have hw:=zh (j:=j) (by omega)
   cases hc:(s.toList == x.toList)
   ·simp only [go_sem,hlt,hx,hc,go_sem_proc]
    exact ⟨j + 1,by omega,⟨by omega,by rw [ht,List.any_append,i2];simp [hc]⟩,zq.of_eq (congrArg cI hw)⟩
   ·have:jx s l=true:=List.any_eq_true.2 ⟨x,hm,hc⟩
    simp only [go_sem,hlt,hx,hc,this,go_sem_proc]
  ·have:j=l.length:=by omega
   subst this
   rw [List.take_length] at i2
   have:jx s l=false:=i2
   simp only [go_sem,Nat.lt_irrefl,this,go_sem_proc]
def zhO:List ByteArray:=[⟨#[97,108,108]⟩,⟨#[97,110,100]⟩,⟨#[97,115]⟩,⟨#[97,115,99]⟩,⟨#[98,101,103,105,110]⟩,⟨#[98,101,116,119,101,101,110]⟩,⟨#[98,108,111,98]⟩,⟨#[98,111,111,108]⟩,⟨#[98,121]⟩,⟨#[99,97,115,101]⟩,⟨#[99,111,109,109,105,116]⟩,⟨#[99,114,101,97,116,101]⟩,⟨#[99,114,111,115,115]⟩,⟨#[100,101,108,101,116,101]⟩,⟨#[100,101,115,99]⟩,⟨#[100,105,115,116,105,110,99,116]⟩,⟨#[100,114,111,112]⟩,⟨#[101,120,99,101,112,116]⟩,⟨#[101,120,105,115,116,115]⟩,⟨#[102,97,108,115,101]⟩,⟨#[102,114,111,109]⟩,⟨#[102,117,108,108]⟩,⟨#[103,114,111,117,112]⟩,⟨#[104,97,118,105,110,103]⟩,⟨#[105,110]⟩,⟨#[105,110,100,101,120]⟩,⟨#[105,110,110,101,114]⟩,⟨#[105,110,115,101,114,116]⟩,⟨#[105,110,116]⟩,⟨#[105,110,116,101,114,115,101,99,116]⟩,⟨#[105,110,116,111]⟩,⟨#[105,115]⟩,⟨#[106,111,105,110]⟩,⟨#[107,101,121]⟩,⟨#[108,101,102,116]⟩,⟨#[108,105,107,101]⟩,⟨#[108,105,109,105,116]⟩,⟨#[110,111,116]⟩,⟨#[110,117,108,108]⟩,⟨#[111,102,102,115,101,116]⟩,⟨#[111,110]⟩,⟨#[111,114]⟩,⟨#[111,114,100,101,114]⟩,⟨#[111,117,116,101,114]⟩,⟨#[112,114,105,109,97,114,121]⟩,⟨#[114,105,103,104,116]⟩,⟨#[114,111,108,108,98,97,99,107]⟩,⟨#[115,101,108,101,99,116]⟩,⟨#[115,101,116]⟩,⟨#[116,97,98,108,101]⟩,⟨#[116,101,120,116]⟩,⟨#[116,114,117,101]⟩,⟨#[117,110,105,111,110]⟩,⟨#[117,110,105,113,117,101]⟩,⟨#[117,112,100,97,116,101]⟩,⟨#[117,115,105,110,103]⟩,⟨#[118,97,108,117,101,115]⟩,⟨#[119,104,101,114,101]⟩]
def zka (s:ByteArray):Bool:=zhO.any fun t=>t.toList == s.toList
theorem Qo (s:ByteArray):Good Tryz.prog 185 [cS s] [] (cB (zka s)) []:=by
 refine Good.zg TT 4000 Tryz.func185 rfl rfl ?_
 unfold Tryz.f185
 simp only [go_sem,go_sem_proc]
 refine Lp.at TT 4000 1 (Nat.le_of_ble_eq_true rfl) [false,false,true,false,true,false,false,true,true,true,true,true,true,true,true] (fun j:Nat=>zhO.length - j) (fun j=>j ≤ zhO.length ∧ (zhO.take j).any (fun t=>t.toList == s.toList)=false) (fun j=>[(7,cI j)]) (fun _=>[(0,.rows 1 9 (zhO.map fun t=>[.str t]))]) (0) (⟨Nat.zero_le _,by simp⟩) ?_ ?_
 ·simp only [go_sem,go_sem_proc]
  rfl
 ·rintro j ⟨i1,i2⟩
  have hlen:zhO.length=58:=rfl
  rcases Nat.lt_or_ge j zhO.length with hlt | hge
  ·obtain ⟨x,hx,hm,ht,hd⟩:=vj hlt
   have hw:=zh (j:=j) (by omega)
   have h58:(j:Int) < 58:=by omega
   have h58n:j < 58:=by omega
   cases hc:(x.toList == s.toList)
   ·simp only [go_sem,hlt,hx,hc,h58,h58n,Nat.zero_add,hlen,go_sem_proc]
    exact ⟨j + 1,by omega,⟨by omega,by rw [ht,List.any_append,i2];simp [hc]⟩,zq.of_eq (congrArg cI hw)⟩
   ·have:zka s=true:=List.any_eq_true.2 ⟨x,hm,hc⟩
    simp only [go_sem,hlt,hx,hc,this,h58,h58n,Nat.zero_add,hlen,go_sem_proc]
  ·have:j=zhO.length:=by omega
   rw [hlen] at this
   subst this
   have:zka s=false:=i2
   simp only [go_sem,Nat.lt_irrefl,this,go_sem_proc]
def okC (c:Int):Bool:=(zlR c || zlb c) && !(decide (65 ≤ c) && decide (c ≤ 90))
def ZJ (s:ByteArray) (j:Nat):Bool:=(List.range j).all fun i=>match s[i]? with | some d=>okC d.toNat | none=>true
def kR (s:ByteArray):Bool:=match s[0]? with
 | none=>false
 | some c=>decide (s.size ≤ 32) && !(zlb c.toNat) && !(zka s) && ZJ s s.size
theorem zdr (s:ByteArray) (hs:s.size ≤ 1000000000):Good Tryz.prog 155 [cS s] [] (cB (kR s)) []:=by
 refine Good.zg TT 4000 Tryz.func155 rfl rfl ?_
 unfold Tryz.f155
 unfold kR
 rcases Nat.lt_or_ge 0 s.size with h0 | h0
 case inr =>
  have e0:(s.size == 0)=true:=beq_iff_eq.2 (by omega)
  have en:s[0]?=none:=getElem?_neg s 0 (by omega)
  rw [en]
  simp only [go_sem,e0,go_sem_proc]
 obtain ⟨c,hc⟩:∃ c,s[0]?=some c:=⟨s[0],getElem?_pos s 0 h0⟩
 have e0:(s.size == 0)=false:=beq_eq_false_iff_ne.2 (by omega)
 rw [hc]
 simp only []
 by_cases h32:(s.size:Int) > 32
 ·have hd:decide (s.size ≤ 32)=false:=decide_eq_false (by omega)
  have h32':decide ((s.size:Int) > 32)=true:=decide_eq_true h32
  rw [hd]
  simp only [go_sem,e0,h32,go_sem_proc]
 have hd:decide (s.size ≤ 32)=true:=decide_eq_true (by omega)
 have h32':decide ((s.size:Int) > 32)=false:=decide_eq_false h32
 rw [hd]
 cases h3:zlb c.toNat
 case true =>
  simp only [go_sem,e0,h32,hc,go_sem_proc]
  refine Cl.pure TT 4000 (yM c.toNat) rfl rfl ?_
  simp only [go_sem,h3,go_sem_proc]
 cases h4:zka s
 case true =>
  simp only [go_sem,e0,h32,hc,go_sem_proc]
  refine Cl.pure TT 4000 (yM c.toNat) rfl rfl ?_
  simp only [go_sem,h3,go_sem_proc]
  refine Cl.pure TT 4000 (Qo s) rfl rfl ?_
  simp only [go_sem,h4,go_sem_proc]
 simp only [go_sem,e0,h32,hc,go_sem_proc]
 refine Cl.pure TT 4000 (yM c.toNat) rfl rfl ?_
 simp only [go_sem,h3,go_sem_proc]
 refine Cl.pure TT 4000 (Qo s) rfl rfl ?_
 simp only [go_sem,h4,go_sem_proc]
 refine Lp.at TT 4000 0 (Nat.le_of_ble_eq_true rfl) [false,false,true,true,false,false,false,false,false,false,false,false,false,false,false,false,false,false,false,false,true,true,true,true,true,true,true,true,true,true,true,true,true,true,true,true,true,true,true,true,true,true,true,true,true,true,true,true,true,true] (fun j:Nat=>s.size - j) (fun j=>j ≤ s.size ∧ ZJ s j=true) (fun j=>[(3,cI j)]) (fun _=>[]) (0) (⟨Nat.zero_le _,rfl⟩) ?_ ?_
 ·simp only [go_sem,go_sem_proc]
 ·rintro j ⟨i1,i2⟩
  rcases Nat.lt_or_ge j s.size with hlt | hge
  ·obtain ⟨d,hd2⟩:∃ d,s[j]?=some d:=⟨s[j],getElem?_pos s j hlt⟩
   have hw:=zh (j:=j) (by omega)
   have hbad:okC d.toNat=false → ZJ s s.size=false:=fun h=>List.all_eq_false.2 ⟨j,List.mem_range.2 hlt,by rw [hd2];simp [h]⟩
   have hgood:okC d.toNat=true → ZJ s (j + 1)=true:=fun h=>by
    unfold ZJ at i2 ⊢
    rw [List.range_succ,List.all_append,i2]
    simp [hd2,h]
   simp only [go_sem,hlt,hd2,go_sem_proc]
   refine Cl.pure TT 4000 (zdD d.toNat) rfl rfl ?_
   cases g1:zlR d.toNat
   ·simp only [go_sem,g1,hd2,go_sem_proc]
    refine Cl.pure TT 4000 (yM d.toNat) rfl rfl ?_
    cases g2:zlb d.toNat
    ·have ho:okC d.toNat=false:=by simp [okC,g1,g2]
     simp only [go_sem,g2,hbad ho,go_sem_proc]
    ·skip
     by_cases u1:(65:Int) ≤ d.toNat
     ·by_cases u2:((d.toNat:Nat):Int) ≤ 90
      ·have ho:okC d.toNat=false:=by simp [okC,u1,u2]
       simp only [go_sem,g1,g2,hd2,u1,u2,hbad ho,ge_iff_le,go_sem_proc]
      ·have ho:okC d.toNat=true:=by simp [okC,g1,g2,u2]
       simp only [go_sem,g1,g2,hd2,u1,u2,ge_iff_le,go_sem_proc]
       exact ⟨j + 1,by omega,⟨by omega,hgood ho⟩,zq.of_eq (congrArg cI hw)⟩
     ·have ho:okC d.toNat=true:=by simp [okC,g1,g2,u1]
      simp only [go_sem,g1,g2,hd2,u1,ge_iff_le,go_sem_proc]
      exact ⟨j + 1,by omega,⟨by omega,hgood ho⟩,zq.of_eq (congrArg cI hw)⟩
   ·have g2:zlR d.toNat=true:=g1
    by_cases u1:(65:Int) ≤ d.toNat
    ·by_cases u2:((d.toNat:Nat):Int) ≤ 90
     ·have ho:okC d.toNat=false:=by simp [okC,u1,u2]
      simp only [go_sem,g1,g2,hd2,u1,u2,hbad ho,ge_iff_le,go_sem_proc]
     ·have ho:okC d.toNat=true:=by simp [okC,g1,g2,u2]
      simp only [go_sem,g1,g2,hd2,u1,u2,ge_iff_le,go_sem_proc]
      exact ⟨j + 1,by omega,⟨by omega,hgood ho⟩,zq.of_eq (congrArg cI hw)⟩
    ·have ho:okC d.toNat=true:=by simp [okC,g1,g2,u1]
     simp only [go_sem,g1,g2,hd2,u1,ge_iff_le,go_sem_proc]
     exact ⟨j + 1,by omega,⟨by omega,hgood ho⟩,zq.of_eq (congrArg cI hw)⟩
  ·have:j=s.size:=by omega
   subst this
   simp only [go_sem,Nat.lt_irrefl,i2,go_sem_proc]
end Go.Ev
end
section
open Go Go.Proofs
namespace Go.Ev
mutual
def wc:Expr → Int → Int
 | .mk _ _ _ _ l,m=>qK l (m - 1)
def qK:List Expr → Int → Int
 | [],m=>m
 | e :: l,m=>if m < 0 then m else qK l (wc e m)
end
mutual
def Expr.nodes:Expr → Nat
 | .mk _ _ _ _ l=>1 + Expr.q8 l
def Expr.q8:List Expr → Nat
 | []=>0
 | e :: l=>e.nodes + Expr.q8 l
end
mutual
def wj:Expr → Nat
 | .mk _ _ _ _ l=>jA l + 1
def jA:List Expr → Nat
 | []=>0
 | e :: l=>max (wj e) (jA l)
end
mutual
def Zs:Expr → Bool
 | .mk op v _ n l=>decide (v.s.size ≤ 60) && decide (op.size ≤ 20) && decide (n.size ≤ 60) && jf l
def jf:List Expr → Bool
 | []=>true
 | e :: l=>Zs e && jf l
end
theorem Wl (e:Expr) (m:Int):wc e m=qK e.l (m - 1):=by cases e;rw [wc];rfl
theorem xS (e:Expr):wj e=jA e.l + 1:=by cases e;rw [wj];rfl
theorem Yb (e:Expr):Zs e=(decide (e.v.s.size ≤ 60) && decide (e.op.size ≤ 20) && decide (e.name.size ≤ 60) && jf e.l):=by cases e;rw [Zs];rfl
theorem q7 (e:Expr):e.nodes=1 + Expr.q8 e.l:=by cases e;rw [Expr.nodes];rfl
theorem W8:∀ (l:List Expr) (m:Int),m < 0 → qK l m=m
 | [],m,_=>rfl
 | e :: l,m,h=>by rw [qK,if_pos h]
theorem VN (e:Expr):∀ m:Int,0 ≤ wc e m → wc e m=m - e.nodes:=by
 induction e using Expr.ind with
 | h e ih =>
  intro m h
  rw [Wl] at h ⊢
  rw [q7]
  have key:∀ (l:List Expr) (m:Int),(∀ x,x ∈ l → ∀ m:Int,0 ≤ wc x m → wc x m=m - x.nodes) → 0 ≤ qK l m → qK l m=m - Expr.q8 l:=fun l=>by
   induction l with
   | nil=>intro m _ h;simp [qK,Expr.q8]
   | cons x l ihl =>
    intro m hx h
    rw [qK] at h ⊢
    split at h
    ·omega
    ·rename_i hm
     rw [if_neg hm]
     by_cases hl:wc x m < 0
     ·rw [W8 l _ hl] at h;omega
     ·have h1:=hx x (by simp) m (by omega)
      have h2:=ihl (wc x m) (fun y hy=>hx y (by simp [hy])) h
      rw [h2,h1,Expr.q8]
      push_cast;omega
  rw [key e.l (m - 1) ih h]
  push_cast;omega
theorem YG (e:Expr):∀ m:Int,0 ≤ m → -1 ≤ wc e m ∧ wc e m ≤ m:=by
 induction e using Expr.ind with
 | h e ih =>
  intro m hm
  rw [Wl]
  have key:∀ (l:List Expr) (m:Int),(∀ x,x ∈ l → ∀ m:Int,0 ≤ m → -1 ≤ wc x m ∧ wc x m ≤ m) → -1 ≤ m → -1 ≤ qK l m ∧ qK l m ≤ m:=fun l=>by
   induction l with
   | nil=>intro m _ h;simp only [qK];omega
   | cons x l ihl =>
    intro m hx h
    rw [qK]
    split
    ·omega
    ·have h1:=hx x (by simp) m (by omega)
     have h2:=ihl (wc x m) (fun y hy=>hx y (by simp [hy])) h1.1
     omega
  have:=key e.l (m - 1) ih (by omega)
  omega
theorem Qh:∀ (l:List Expr) (x:Expr) (m:Int),qK (l ++ [x]) m=if qK l m < 0 then qK l m else wc x (qK l m)
 | [],x,m=>by
  simp only [List.nil_append,qK]
  try rfl
 | y :: l,x,m=>by
  rw [List.cons_append,qK,qK]
  split
  ·rename_i h
   first | rfl | rw [if_pos h]
  ·exact Qh l x _
theorem zjm (e:Expr):∀ m:Int,0 ≤ m → m ≤ 1000000 → Good Tryz.prog 71 [e.av,cI m] [] (cI (wc e m)) []:=by
 induction e using Expr.ind with
 | h e ih =>
 intro m hm hm2
 refine Expr.zbQ (e:=e) (by simp) fun hl=>?_
 have hwm:IntKind.wrap .i64 (m - 1)=m - 1:=qd (by omega) (by omega)
 refine Good.zg TT 4000 Tryz.func71 rfl rfl ?_
 unfold Tryz.f71
 simp only [go_sem,hwm,go_sem_proc]
 rw [Wl]
 refine Lp.at TT 4000 1 (Nat.le_of_ble_eq_true rfl) [false,true,false,false,true,false,true,false,false,false,false,false,true,true,true,true,true,true,true,true,true,true,true] (fun j:Nat=>e.l.length - j) (fun j=>j ≤ e.l.length ∧ (∀ i,i < j → 0 ≤ qK (e.l.take i) (m - 1)) ∧ -1 ≤ qK (e.l.take j) (m - 1) ∧ qK (e.l.take j) (m - 1) ≤ m) (fun j=>[(1,cI (qK (e.l.take j) (m - 1))),(12,cI j)]) (fun _=>[]) (0) (⟨Nat.zero_le _,fun i h=>absurd h (Nat.not_lt_zero _),by simp only [List.take_zero,qK];omega,by simp only [List.take_zero,qK];omega⟩) ?_ ?_
 ·simp only [go_sem,qK,go_sem_proc]
 ·rintro j ⟨i1,i2,i3,i4⟩
  rcases Nat.lt_or_ge j e.l.length with hlt | hge
  ·obtain ⟨x,hx,hmem,ht,hd⟩:=vj hlt
   have hw:=zh (j:=j) (by omega)
   by_cases hneg:qK (e.l.take j) (m - 1) < 0
   ·have hfin:qK e.l (m - 1)=qK (e.l.take j) (m - 1):=by
     have happ:∀ (a b:List Expr) (m:Int),qK a m < 0 → qK (a ++ b) m=qK a m:=fun a=>by
      induction a with
      | nil=>intro b m h;simp only [qK] at h;rw [List.nil_append,W8 b m h];rfl
      | cons y a iha =>
       intro b m h
       rw [List.cons_append]
       rw [qK] at h ⊢
       split at h
       ·rename_i h2;rw [if_pos h2,qK,if_pos h2]
       ·rename_i h2;rw [if_neg h2,iha b _ h,qK,if_neg h2]
     rw [← List.take_append_drop j e.l,happ _ _ _ hneg,List.take_append_drop]
    simp only [go_sem,hlt,hx,hneg,hfin,go_sem_proc]
   ·simp only [go_sem,hlt,hx,hneg,go_sem_proc]
    refine Cl.pure TT 4000 (ih x hmem (qK (e.l.take j) (m - 1)) (by omega) (by omega)) rfl rfl ?_
    have hnext:qK (e.l.take (j + 1)) (m - 1)=wc x (qK (e.l.take j) (m - 1)):=by rw [ht,Qh,if_neg hneg]
    have hb:=YG x (qK (e.l.take j) (m - 1)) (by omega)
    simp only [go_sem,hw,go_sem_proc]
    exact ⟨j + 1,by omega,⟨by omega,fun i hi=>by
     rcases Nat.lt_or_ge i j with h | h
     ·exact i2 i h
     ·have:i=j:=by omega
      subst this;omega,by rw [hnext];exact hb.1,by rw [hnext];omega⟩,zq.of_eq (by rw [hnext]),zq.of_eq rfl⟩
  ·have:j=e.l.length:=by omega
   subst this
   simp only [go_sem,Nat.lt_irrefl,List.take_length,go_sem_proc]
theorem zkh (e:Expr) (m:Int) (hm:0 ≤ m) (hm2:m ≤ 1000000):Good Tryz.prog 39 [e.av,cI m] [] (cB (decide (0 ≤ wc e m))) []:=by
 refine Good.zg TT 4000 Tryz.func39 rfl rfl ?_
 unfold Tryz.f39
 simp only [go_sem,go_sem_proc]
 (refine Cl.pure TT 4000 (zjm e m hm hm2) rfl rfl ?_;simp only [go_sem,go_sem_proc])
 trace_state
theorem wX:∀ (l m:List Expr),jf (l ++ m)=(jf l && jf m)
 | [],m=>by simp [jf]
 | x :: l,m=>by simp [jf,wX l m,Bool.and_assoc]
theorem zfQ (e:Expr):Good Tryz.prog 40 [e.av] [] (cB (Zs e)) []:=by
 induction e using Expr.ind with
 | h e ih =>
 refine Expr.zbQ (e:=e) (by simp) fun hl=>?_
 rw [Yb]
 refine Good.zg TT 4000 Tryz.func40 rfl rfl ?_
 unfold Tryz.f40
 by_cases a1:(e.v.s.size:Int) > 60
 ·have d1:decide (e.v.s.size ≤ 60)=false:=decide_eq_false (by omega)
  simp only [go_sem,a1,d1,go_sem_proc]
 have d1:decide (e.v.s.size ≤ 60)=true:=decide_eq_true (by omega)
 by_cases a2:(e.op.size:Int) > 20
 ·have d2:decide (e.op.size ≤ 20)=false:=decide_eq_false (by omega)
  simp only [go_sem,a1,d1,a2,d2,go_sem_proc]
 have d2:decide (e.op.size ≤ 20)=true:=decide_eq_true (by omega)
 by_cases a3:(e.name.size:Int) > 60
 ·have d3:decide (e.name.size ≤ 60)=false:=decide_eq_false (by omega)
  simp only [go_sem,a1,d1,a2,d2,a3,d3,go_sem_proc]
 have d3:decide (e.name.size ≤ 60)=true:=decide_eq_true (by omega)
 simp only [go_sem,a1,d1,a2,d2,a3,d3,go_sem_proc]
 refine Lp.at TT 4000 1 (Nat.le_of_ble_eq_true rfl) [false,false,true,false,true,false,false,false,false,false,false,false,false,false,false,false,false,false,false,false,false,false,false,false,false,true,true,true,true,true,true,true,true] (fun j:Nat=>e.l.length - j) (fun j=>j ≤ e.l.length ∧ jf (e.l.take j)=true) (fun j=>[(25,cI j)]) (fun _=>[]) (0) (⟨Nat.zero_le _,rfl⟩) ?_ ?_
 ·simp only [go_sem,go_sem_proc]
 ·rintro j ⟨i1,i2⟩
  rcases Nat.lt_or_ge j e.l.length with hlt | hge
  ·obtain ⟨x,hx,hm,ht,hd⟩:=vj hlt
   have hw:=zh (j:=j) (by omega)
   simp only [go_sem,hlt,hx,go_sem_proc]
   refine Cl.pure TT 4000 (ih x hm) rfl rfl ?_
   cases hk:Zs x
   ·have:jf e.l=false:=by
     rw [← List.take_append_drop j e.l,hd,wX]
     simp [jf,hk]
    simp only [go_sem,hk,this,go_sem_proc]
   ·simp only [go_sem,hk,hw,go_sem_proc]
    exact ⟨j + 1,by omega,⟨by omega,by rw [ht,wX,i2];simp [jf,hk]⟩,zq.of_eq rfl⟩
  ·have:j=e.l.length:=by omega
   subst this
   rw [List.take_length] at i2
   simp only [go_sem,Nat.lt_irrefl,i2,go_sem_proc]
theorem Qk:∀ (l m:List Expr),jA (l ++ m)=max (jA l) (jA m)
 | [],m=>by simp [jA]
 | x :: l,m=>by simp [jA,Qk l m,Nat.max_assoc]
theorem zcq (e:Expr):wj e ≤ e.nodes:=by
 induction e using Expr.ind with
 | h e ih =>
  rw [xS,q7]
  have key:∀ l:List Expr,(∀ x,x ∈ l → wj x ≤ x.nodes) → jA l ≤ Expr.q8 l:=fun l=>by
   induction l with
   | nil=>intro _;simp [jA,Expr.q8]
   | cons x l ihl =>
    intro h
    have h1:=h x (by simp)
    have h2:=ihl fun y hy=>h y (by simp [hy])
    rw [jA,Expr.q8];omega
  have:=key e.l ih
  omega
theorem xX {l:List Expr} {x:Expr} (h:x ∈ l):x.nodes ≤ Expr.q8 l:=by
 induction l with
 | nil=>cases h
 | cons y l ih =>
  rw [Expr.q8]
  rcases List.mem_cons.1 h with rfl | h
  ·omega
  ·have:=ih h;omega
theorem ZN (l:List Expr):l.length ≤ Expr.q8 l:=by
 induction l with
 | nil=>simp
 | cons y l ih=>rw [Expr.q8,q7,List.length_cons];omega
theorem zi7 (e:Expr):e.nodes ≤ 1000000 → Good Tryz.prog 100 [e.av] [] (cI (wj e)) []:=by
 induction e using Expr.ind with
 | h e ih =>
 intro hn
 have hl:e.l.length ≤ 1000000:=by have:=ZN e.l;rw [q7] at hn;omega
 have hdn:=zcq e
 refine Good.zg TT 4000 Tryz.func100 rfl rfl ?_
 unfold Tryz.f100
 simp only [go_sem,go_sem_proc]
 rw [xS] at hdn ⊢
 refine Lp.at TT 4000 1 (Nat.le_of_ble_eq_true rfl) [false,false,false,true,false,true,false,false,false,true,true,true,true,true,true,true,true,true] (fun j:Nat=>e.l.length - j) (fun j=>j ≤ e.l.length) (fun j=>[(3,cI (jA (e.l.take j))),(9,cI j)]) (fun _=>[]) (0) (Nat.zero_le _) ?_ ?_
 ·simp only [go_sem,jA,go_sem_proc]
 ·rintro j i1
  rcases Nat.lt_or_ge j e.l.length with hlt | hge
  ·obtain ⟨x,hx,hm,ht,hd⟩:=vj hlt
   have hw:=zh (j:=j) (by omega)
   simp only [go_sem,hlt,hx,go_sem_proc]
   refine Cl.pure TT 4000 (ih x hm (by have:=xX hm;rw [q7] at hn;omega)) rfl rfl ?_
   have hmx:(max ((jA (e.l.take j):Nat):Int) (wj x:Int))=((jA (e.l.take (j + 1)):Nat):Int):=by
    rw [ht,Qk]
    simp only [jA]
    omega
   simp only [go_sem,hw,hmx,go_sem_proc]
   exact ⟨j + 1,by omega,by omega,zq.of_eq rfl,zq.of_eq rfl⟩
  ·have:j=e.l.length:=by omega
   subst this
   have hw2:=zh (j:=jA e.l) (by omega)
   simp only [go_sem,Nat.lt_irrefl,List.take_length,hw2,go_sem_proc]
end Go.Ev
end
section
open Go Go.Proofs
namespace Go.Ev
def Qu (r:List Val):Nat:=(r.map fun v=>1 + v.s.size).sum
def cnt (l:List (List Val)):Nat:=(l.map fun r=>1 + Qu r).sum
theorem zgJ (r:List Val) (v:Val):Qu (r ++ [v])=Qu r + (1 + v.s.size):=by simp [Qu]
theorem J7 (l:List (List Val)) (r:List Val):cnt (l ++ [r])=cnt l + (1 + Qu r):=by simp [cnt]
theorem zfE (r:List Val) (i:Nat):Qu (r.take i) ≤ Qu r:=by
 conv=>rhs;rw [← List.take_append_drop i r]
 simp only [Qu,List.map_append,List.sum_append];omega
theorem zhz (l:List (List Val)) (i:Nat):cnt (l.take i) ≤ cnt l:=by
 conv=>rhs;rw [← List.take_append_drop i l]
 simp only [cnt,List.map_append,List.sum_append];omega
def qD (l:List (List Val)):CV:=.lst 1 false (l.map fun r=>[qk r])
attribute [go_sem] qD
theorem Good.zln {P:Program} {f:FuncId} {args:List AV} {h h':List zf} {r:AV} {sz:Nat} {x:Bool} {xs:List (List CV)} (hm:AV.c (.lst sz x xs) ∈ args)
  (G:(∀ e,e ∈ xs → ∀ sz' x' ys,CV.lst sz' x' ys ∈ e → ys.length ≤ 9223372036854775807) → Good P f args h r h'):Good P f args h r h':=fun w N ρ vs H hs hl hr=>by
 obtain ⟨i,hi,he⟩:=List.getElem_of_mem hm
 have:=hr i hi (by omega)
 rw [he] at this
 generalize vs[i]=y at this
 refine G ?_ w N ρ vs H hs hl hr
 intro e hE sz' x' ys hy
 cases this with
 | c h=>cases h with
  | lst _ _ _ A c V hx hc hm hsz hcell hrep =>
   obtain ⟨a,ha,rfl⟩:=List.getElem_of_mem hE
   obtain ⟨b,hb,hbe⟩:=List.getElem_of_mem hy
   have:=hrep a b ha hb
   rw [hbe] at this
   generalize V a b=z at this
   cases this with
   | lst _ _ _ A c V hx hc hm=>omega
theorem zkx (l:List (List Val)) (most:Nat) (hm:most ≤ 100000) (hl:l.length ≤ 1099511627776) (hs:∀ r,r ∈ l → ∀ v,v ∈ r → v.s.size ≤ 281474976710656) :
  Good Tryz.prog 37 [.c (qD l),cI most] [] (cB (decide (cnt l ≤ most))) []:=by
 refine Good.zln (xs:=l.map fun r=>[qk r]) (List.mem_cons_self ..) fun hb2=>?_
 refine Good.zg TT 8000 Tryz.func37 rfl rfl ?_
 unfold Tryz.f37
 simp only [go_sem,go_sem_proc]
 refine Lp.fit TT 8000 0 (Nat.le_refl _) (fun j:Nat=>l.length - j) (fun j=>j ≤ l.length ∧ cnt (l.take j) ≤ most + j)
  (fun j=>⟨[.c (qD l),cI most,.dead,.dead,.dead,cI (cnt (l.take j)),.dead,.dead,.dead,.dead,.c (qD l),cI l.length,cI j] ++ List.replicate 25 .dead,[]⟩) 0 ⟨Nat.zero_le _,by simp [cnt]⟩ ?_ ?_
 ·simp only [go_sem,go_sem_proc]
  exact .inr (Le.of_eq (by simp [cnt]))
 ·rintro j ⟨i1,i2⟩
  rcases Nat.lt_or_ge j l.length with hlt | hge
  ·obtain ⟨r,hr,hmem,ht,hd⟩:=vj hlt
   have hw:=zh (j:=j) (by omega)
   have hn1:=zh (j:=cnt (l.take j)) (by omega)
   simp only [go_sem,hlt,hr,go_sem_proc]
   refine Lp.fit TT 8000 0 (Nat.le_refl _) (fun i:Nat=>r.length - i) (fun i=>i ≤ r.length ∧ cnt (l.take j) + 1 + Qu (r.take i) ≤ most + j + 1)
    (fun i=>⟨[.c (qD l),cI most,.dead,.dead,.dead,cI (cnt (l.take j) + 1 + Qu (r.take i):Nat),.dead,.dead,.dead,.dead,.c (qD l),cI l.length,cI j,.dead,.dead,.dead,.dead,.dead,.c (qk r),cI r.length,cI i] ++ List.replicate 17 .dead,[]⟩) 0 ⟨Nat.zero_le _,by simp [Qu];omega⟩ ?_ ?_
   ·simp only [go_sem,hn1,go_sem_proc]
    exact .inr (Le.of_eq (by simp [Qu]))
   ·rintro i ⟨k1,k2⟩
    rcases Nat.lt_or_ge i r.length with hlt' | hge'
    ·obtain ⟨v,hv,hmv,ht',hd'⟩:=vj hlt'
     have hsz:=hs r hmem v hmv
     have hrl:r.length ≤ 9223372036854775807:=by
      have:=hb2 [qk r] (List.mem_map.2 ⟨r,hmem,rfl⟩) 3 false (r.map Val.cs) (by simp [qk])
      simpa using this
     have hw':=zh (j:=i) (by omega)
     have e1:IntKind.i64.wrap (1 + (v.s.size:Int))=1 + v.s.size:=qd (by omega) (by omega)
     have e2:IntKind.i64.wrap (((cnt (l.take j) + 1 + Qu (r.take i):Nat):Int) + (1 + (v.s.size:Int)))=((cnt (l.take j) + 1 + Qu (r.take (i + 1)):Nat):Int):=by
      rw [ht',zgJ,qd (by omega) (by omega)];omega
     simp only [go_sem,hlt',hv,e1,e2,hw',go_sem_proc]
     by_cases hgt:most < cnt (l.take j) + 1 + Qu (r.take (i + 1))
     ·simp only [go_sem,gt_iff_lt,Int.ofNat_lt,hgt,go_sem_proc]
      refine Le.of_eq (congrArg cB ?_)
      have h1:=zhz l (j + 1)
      have h2:=zfE r (i + 1)
      rw [ht,J7] at h1
      exact (decide_eq_false (by omega)).symm
     ·simp only [go_sem,gt_iff_lt,Int.ofNat_lt,hgt,hw',go_sem_proc]
      exact ⟨i + 1,by omega,⟨by omega,by omega⟩,zq.of_eq rfl,zq.of_eq rfl⟩
    ·have:i=r.length:=by omega
     subst this
     simp only [go_sem,Nat.lt_irrefl,hw,go_sem_proc]
     rw [List.take_length] at k2 ⊢
     refine ⟨j + 1,by omega,⟨by omega,by rw [ht,J7];omega⟩,zq.of_eq (by rw [ht,J7,Nat.add_assoc]),zq.of_eq rfl⟩
  ·have:j=l.length:=by omega
   subst this
   simp only [go_sem,Nat.lt_irrefl,go_sem_proc]
   refine Le.of_eq (congrArg cB ?_)
   rw [List.take_length]
end Go.Ev
end
