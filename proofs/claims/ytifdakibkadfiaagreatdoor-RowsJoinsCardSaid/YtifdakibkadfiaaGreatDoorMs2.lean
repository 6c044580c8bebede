import Derived.Test.YtifdakibkadfiaaGreatDoorMe4
import Derived.Test.YtifdakibkadfiaaGreatDoorMs1
set_option linter.all false
set_option maxRecDepth 100000
set_option maxHeartbeats 8000000
section
open Go Go.Proofs
namespace Go.Ev
inductive Pc where
 | any
 | one
 | ch (c:UInt8)
def Pc.fits:Pc → UInt8 → Bool
 | .any,_=>false
 | .one,_=>true
 | .ch c,d=>c == d
def Pc.isAny:Pc → Bool
 | .any=>true
 | _=>false
def mat:List Pc → List UInt8 → Bool
 | [],s=>s.isEmpty
 | .any :: P,[]=>mat P []
 | .any :: P,d :: s=>mat P (d :: s) || mat (.any :: P) s
 | x :: P,[]=>false
 | x :: P,d :: s=>x.fits d && mat P s
theorem yz (P:List Pc):∀ s:List UInt8,mat (.any :: P) s=true ↔ ∃ k,k ≤ s.length ∧ mat P (s.drop k)=true
 | []=>by
  rw [mat]
  constructor
  ·intro h;exact ⟨0,Nat.le_refl _,h⟩
  ·rintro ⟨k,_,h⟩;simpa using h
 | d :: s=>by
  rw [mat,Bool.or_eq_true,yz P s]
  constructor
  ·rintro (h | ⟨k,hk,h⟩)
   ·exact ⟨0,Nat.zero_le _,h⟩
   ·exact ⟨k + 1,by simp;omega,h⟩
  ·rintro ⟨k,hk,h⟩
   cases k with
   | zero=>exact .inl h
   | succ k=>exact .inr ⟨k,by simp at hk;omega,h⟩
theorem vv {x:Pc} (hx:x.isAny=false) (P:List Pc) (s:List UInt8):mat (x :: P) s=match s with | []=>false | d :: s=>x.fits d && mat P s:=by
 cases x with
 | any=>cases hx
 | one=>cases s <;> simp [mat]
 | ch c=>cases s <;> simp [mat]
theorem JH:mat [] []=true:=by simp [mat]
theorem j3:∀ (Q R:List Pc) (t:List UInt8),mat (Q ++ R) t=true ↔ ∃ k,k ≤ t.length ∧ mat Q (t.take k)=true ∧ mat R (t.drop k)=true
 | [],R,t=>by
  rw [List.nil_append]
  constructor
  ·intro h;exact ⟨0,Nat.zero_le _,by rw [List.take_zero];exact JH,h⟩
  ·rintro ⟨k,hk,h1,h2⟩
   have:t.take k=[]:=by rw [mat] at h1;exact List.isEmpty_iff.1 h1
   have hk0:k=0 ∨ t=[]:=by
    rw [List.take_eq_nil_iff] at this;exact this
   rcases hk0 with rfl | rfl
   ·exact h2
   ·simpa using h2
 | x :: Q,R,t=>by
  rw [List.cons_append]
  cases hx:x.isAny
  ·rw [vv hx]
   cases t with
   | nil =>
    simp only [Bool.false_eq_true,false_iff]
    rintro ⟨k,hk,h1,_⟩
    rw [List.take_nil,vv hx] at h1
    cases h1
   | cons d s =>
    simp only [Bool.and_eq_true]
    rw [j3 Q R s]
    constructor
    ·rintro ⟨h0,k,hk,h1,h2⟩
     refine ⟨k + 1,by simp;omega,?_,h2⟩
     rw [List.take_succ_cons,vv hx]
     simp only [Bool.and_eq_true]
     exact ⟨h0,h1⟩
    ·rintro ⟨k,hk,h1,h2⟩
     cases k with
     | zero=>rw [List.take_zero,vv hx] at h1;cases h1
     | succ k =>
      rw [List.take_succ_cons,vv hx] at h1
      simp only [Bool.and_eq_true] at h1
      exact ⟨h1.1,k,by simp at hk;omega,h1.2,h2⟩
  ·have:x = .any:=by cases x <;> first | rfl | (cases hx)
   subst this
   rw [yz]
   constructor
   ·rintro ⟨k,hk,h⟩
    obtain ⟨j,hj,h1,h2⟩:=(j3 Q R (t.drop k)).1 h
    rw [List.length_drop] at hj
    refine ⟨k + j,by omega,?_,by rw [← List.drop_drop];exact h2⟩
    rw [yz]
    refine ⟨k,by rw [List.length_take];omega,?_⟩
    rw [List.drop_take]
    rw [show k + j - k=j by omega];exact h1
   ·rintro ⟨k,hk,h1,h2⟩
    rw [yz] at h1
    obtain ⟨j,hj,h1⟩:=h1
    rw [List.length_take] at hj
    refine ⟨j,by omega,(j3 Q R (t.drop j)).2 ⟨k - j,by rw [List.length_drop];omega,?_,?_⟩⟩
    ·rw [List.drop_take] at h1;exact h1
    ·rw [List.drop_drop];rw [show j + (k - j)=k by omega];exact h2
theorem Qc (Q:List Pc) (t:List UInt8):mat (Q ++ [.any]) t=true ↔ ∃ k,k ≤ t.length ∧ mat Q (t.take k)=true:=by
 rw [j3]
 have:∀ u:List UInt8,mat [.any] u=true:=fun u=>by
  rw [yz];exact ⟨u.length,Nat.le_refl _,by rw [List.drop_length];exact JH⟩
 simp only [this,and_true]
theorem zbd {x:Pc} (hx:x.isAny=false) (Q:List Pc) (t:List UInt8):mat (Q ++ [x]) t=true ↔ ∃ u d,t=u ++ [d] ∧ x.fits d=true ∧ mat Q u=true:=by
 rw [j3]
 constructor
 ·rintro ⟨k,hk,h1,h2⟩
  rw [vv hx] at h2
  cases hd:t.drop k with
  | nil=>rw [hd] at h2;cases h2
  | cons d s =>
   rw [hd] at h2
   simp only [Bool.and_eq_true] at h2
   have hs:s=[]:=by have:=h2.2;rw [mat] at this;exact List.isEmpty_iff.1 this
   refine ⟨t.take k,d,?_,h2.1,h1⟩
   rw [hs] at hd
   rw [← hd,List.take_append_drop]
 ·rintro ⟨u,d,rfl,h1,h2⟩
  refine ⟨u.length,by simp,by rw [List.take_left];exact h2,?_⟩
  rw [List.drop_left,vv hx]
  simp only [Bool.and_eq_true]
  exact ⟨h1,JH⟩
theorem XF:∀ (B P:List Pc) (s:List UInt8),(∀ x,x ∈ B → x.isAny=false) → mat (B ++ P) s=true → B.length ≤ s.length ∧ mat P (s.drop B.length)=true
 | [],P,s,_,h=>⟨Nat.zero_le _,h⟩
 | x :: B,P,s,hB,h=>by
  rw [List.cons_append,vv (hB x (by simp))] at h
  cases s with
  | nil=>cases h
  | cons d s =>
   simp only [Bool.and_eq_true] at h
   have:=XF B P s (fun y hy=>hB y (by simp [hy])) h.2
   exact ⟨by simp;exact this.1,this.2⟩
def zj5 (c:UInt8):Pc:=if c=37 then .any else if c=95 then .one else .ch c
def spec (d:UInt8):Bool:=d == 37 || d == 95 || d == 92
def yB:List UInt8 → Option (Pc × List UInt8)
 | []=>none
 | c :: l=>if c=92 then (match l with
   | []=>none
   | d :: l=>if spec d then some (.ch d,l) else none)
  else some (zj5 c,l)
theorem kT (c:UInt8) (l:List UInt8):yB (c :: l)=if c=92 then (match l with | []=>none | d :: l=>if spec d then some (.ch d,l) else none) else some (zj5 c,l):=by
 cases l <;> rfl
theorem Yf {l l':List UInt8} {x:Pc} (h:yB l=some (x,l')):l'.length < l.length:=by
 cases l with
 | nil=>cases h
 | cons c l =>
  rw [kT] at h
  split at h
  ·cases l with
   | nil=>cases h
   | cons d l =>
    simp only at h
    split at h
    ·cases h;simp;omega
    ·cases h
  ·cases h;simp
def qv (l:List UInt8):Option (List Pc):=match h:yB l with
 | none=>if l.isEmpty then some [] else none
 | some (x,l')=>(qv l').map (x :: ·)
 termination_by l.length
 decreasing_by exact Yf h
theorem xR:qv []=some []:=by rw [qv];rfl
theorem yD {l:List UInt8} (hl:l ≠ []) (h:yB l=none):qv l=none:=by
 rw [qv]
 split
 ·rw [if_neg (by simpa using hl)]
 ·rename_i h2;rw [h] at h2;cases h2
theorem yx {l l':List UInt8} {x:Pc} (h:yB l=some (x,l')):qv l=(qv l').map (x :: ·):=by
 rw [qv]
 split
 ·rename_i h2;rw [h] at h2;cases h2
 ·rename_i h2;rw [h] at h2;cases h2;rfl
theorem VT {l:List UInt8} {P:List Pc} (h:qv l=some P) (hl:l ≠ []):∃ x l' P',yB l=some (x,l') ∧ P=x :: P' ∧ qv l'=some P':=by
 cases hn:yB l with
 | none=>rw [yD hl hn] at h;cases h
 | some q =>
  obtain ⟨x,l'⟩:=q
  rw [yx hn] at h
  cases hp:qv l' with
  | none=>rw [hp] at h;cases h
  | some P'=>rw [hp] at h;cases h;exact ⟨x,l',P',rfl,rfl,hp⟩
theorem vI (p:ByteArray) (i:Nat):p[i]?=p.data.toList[i]?:=by
 rcases Nat.lt_or_ge i p.size with h | h
 ·rw [getElem?_pos p i h,List.getElem?_eq_getElem (by exact h)];rfl
 ·rw [getElem?_neg p i (by omega),List.getElem?_eq_none (by exact h)]
theorem zer (p:ByteArray) (n:Nat):(p.extract n p.size).data.toList=p.data.toList.drop n:=by
 rw [ByteArray.data_extract,Array.toList_extract]
 rw [List.extract_eq_take_drop]
 exact List.take_of_length_le (by rw [List.length_drop];exact Nat.le_refl _)
theorem zhU:((List.range 256).all fun k=>(decide (zhn Y3 (k:Int) < 0)) == !spec (UInt8.ofNat k))=true:=by kernel_rfl
theorem zbA (d:UInt8):zhn Y3 (d.toNat:Int) < 0 ↔ spec d=false:=by
 have:=List.all_eq_true.1 zhU d.toNat (List.mem_range.2 d.toNat_lt)
 rw [show UInt8.ofNat d.toNat=d from UInt8.ofNat_toNat] at this
 have:=eq_of_beq this
 constructor
 ·intro h
  rw [decide_eq_true h] at this
  cases hs:spec d
  ·rfl
  ·rw [hs] at this;cases this
 ·intro h
  rw [h] at this
  exact of_decide_eq_true this
theorem KH {p:ByteArray} (h:0 < p.size):∃ c l,p.data.toList=c :: l:=by
 cases hl:p.data.toList with
 | nil=>exfalso;have:p.size=p.data.toList.length:=rfl;rw [hl,List.length_nil] at this;omega
 | cons c l=>exact ⟨c,l,rfl⟩
theorem Xj {p:ByteArray} (h:0 < p.size):match yB p.data.toList with
  | none=>(qN p).2.1=0
  | some (x,l')=>(qN p).2.1 ≠ 0 ∧ (jY p).data.toList=l' ∧ (x.isAny=true ↔ (qN p).2.2=false ∧ (qN p).1=37) ∧ (x.isAny=false → ∀ (s:ByteArray) (a:Nat) d,s[a]?=some d → vP s a p=x.fits d):=by
 obtain ⟨c,l,hl⟩:=KH h
 have h0:p[0]?=some c:=by rw [vI,hl];rfl
 rw [hl,kT]
 by_cases h92:c=92
 ·subst h92
  rw [if_pos rfl]
  cases l with
  | nil =>
   have h1:p[1]?=none:=by rw [vI,hl];rfl
   simp only
   unfold qN
   rw [h0,h1];rfl
  | cons d l =>
   have h1:p[1]?=some d:=by rw [vI,hl];rfl
   simp only
   cases hs:spec d
   ·have:=(zbA d).2 hs
    rw [if_neg (by simp)]
    unfold qN
    rw [h0,h1]
    simp only
    rw [if_pos (by rfl),if_pos this]
   ·have hn:¬ zhn Y3 (d.toNat:Int) < 0:=fun h2=>by rw [(zbA d).1 h2] at hs;cases hs
    have e:qN p=((d.toNat:Int),2,true):=by
     unfold qN
     rw [h0,h1]
     simp only
     rw [if_pos (by rfl),if_neg hn]
    rw [if_pos rfl]
    refine ⟨by rw [e];simp,?_,?_,fun _ s a f hf=>?_⟩
    ·unfold jY;rw [e]
     rw [zer,hl];rfl
    ·rw [e];simp [Pc.isAny]
    ·unfold vP
     rw [hf,e]
     simp only [Pc.fits,Bool.not_true,Bool.false_or]
     rw [Bool.eq_iff_iff];simp only [beq_iff_eq]
     constructor
     ·intro h2
      have:f.toNat=d.toNat:=by omega
      exact (UInt8.toNat_inj.1 this).symm
     ·rintro rfl;rfl
 ·rw [if_neg h92]
  have hc92:¬ c.toNat=92:=fun h2=>h92 (UInt8.toNat_inj.1 h2)
  have e:qN p=((c.toNat:Int),1,!(c.toNat == 37) && !(c.toNat == 95)):=by
   unfold qN
   rw [h0]
   simp only
   rw [if_neg hc92]
  have t:(jY p).data.toList=l:=by
   unfold jY;rw [e]
   rw [zer,hl];rfl
  refine ⟨by rw [e];simp,t,?_,fun hx s a f hf=>?_⟩
  ·rw [e]
   unfold zj5
   by_cases h37:c=37
   ·subst h37;simp [Pc.isAny]
   ·have:¬ ((c.toNat:Int)=37):=fun h2=>h37 (UInt8.toNat_inj.1 (by (have:c.toNat=37:=by omega);exact this))
    rw [if_neg h37]
    by_cases h95:c=95
    ·rw [if_pos h95];simp [Pc.isAny];subst h95;decide
    ·rw [if_neg h95]
     simp only [Pc.isAny,Bool.false_eq_true,false_iff,not_and]
     intro _;exact this
  ·unfold vP
   rw [hf,e]
   unfold zj5 at hx ⊢
   by_cases h37:c=37
   ·rw [if_pos h37] at hx;cases hx
   ·have n37:(c.toNat == 37)=false:=beq_eq_false_iff_ne.2 fun h2=>h37 (UInt8.toNat_inj.1 h2)
    rw [if_neg h37]
    by_cases h95:c=95
    ·subst h95;rw [if_pos rfl];simp [Pc.fits]
    ·have n95:(c.toNat == 95)=false:=beq_eq_false_iff_ne.2 fun h2=>h95 (UInt8.toNat_inj.1 h2)
     rw [if_neg h95,n37,n95]
     simp only [Pc.fits,Bool.not_false,Bool.and_self,Bool.not_true,Bool.false_or]
     rw [Bool.eq_iff_iff];simp only [beq_iff_eq]
     constructor
     ·intro h2
      have:f.toNat=c.toNat:=by omega
      exact (UInt8.toNat_inj.1 this).symm
     ·rintro rfl;rfl
theorem VR (p:ByteArray):xz p=if (qv p.data.toList).isSome then 0 else 40:=by
 rcases Nat.lt_or_ge 0 p.size with h | h
 ·have hn:=Xj h
  obtain ⟨c,l,hl⟩:=KH h
  have hne:p.data.toList ≠ []:=by rw [hl];simp
  rw [xz,dif_pos h]
  cases hx:yB p.data.toList with
  | none =>
   rw [hx] at hn
   rw [dif_pos hn,yD hne hx];rfl
  | some q =>
   obtain ⟨x,l'⟩:=q
   rw [hx] at hn
   have ht:=jg h hn.1
   rw [dif_neg hn.1,yx hx,VR (jY p),hn.2.1]
   cases qv l' <;> rfl
 ·rw [xz,dif_neg (by omega)]
  have:p.data.toList=[]:=List.eq_nil_of_length_eq_zero (by have:p.size=p.data.toList.length:=rfl;omega)
  rw [this,xR];rfl
 termination_by p.size
structure LG (s p back:ByteArray) (f:Int) (a:Nat) (P Bk:List Pc):Prop where
 pp:qv p.data.toList=some P
 bk:0 ≤ f → qv back.data.toList=some Bk ∧ ∃ B:List Pc,Bk=B ++ P ∧ (∀ x,x ∈ B → x.isAny=false) ∧ (a:Int)=f + B.length
 f0:-1 ≤ f
 fa:f ≤ a
 top:a ≤ s.size
theorem Zb (s p back:ByteArray) (f:Int) (a:Nat) (P Bk:List Pc) (H:LG s p back f a P Bk) :
  KT s p back f a=true ↔ mat P (s.data.toList.drop a)=true ∨ (0 ≤ f ∧ ∃ j:Nat,f < j ∧ j ≤ s.size ∧ mat Bk (s.data.toList.drop j)=true):=by
 have hsz:s.data.toList.length=s.size:=rfl
 have hback:mat P (s.data.toList.drop a)=false → ((if f < 0 ∨ (s.size:Int) ≤ f then false else KT s back back (f + 1) (f + 1).toNat)=true ↔ mat P (s.data.toList.drop a)=true ∨ (0 ≤ f ∧ ∃ j:Nat,f < j ∧ j ≤ s.size ∧ mat Bk (s.data.toList.drop j)=true)):=fun hm=>by
  rw [hm]
  by_cases hb:f < 0 ∨ (s.size:Int) ≤ f
  ·rw [if_pos hb]
   simp only [Bool.false_eq_true,false_iff,false_or]
   rintro ⟨h1,j,h2,h3,_⟩
   omega
  ·rw [if_neg hb]
   obtain ⟨b1,b2⟩:=H.bk (by omega)
   have:=Zb s back back (f + 1) (f + 1).toNat Bk Bk ⟨b1,fun _=>⟨b1,[],rfl,by simp,by simp;omega⟩,by omega,by omega,by omega⟩
   rw [this]
   simp only [Bool.false_eq_true,false_or]
   constructor
   ·rintro (h | ⟨_,j,h1,h2,h3⟩)
    ·exact ⟨by omega,(f + 1).toNat,by omega,by omega,h⟩
    ·exact ⟨by omega,j,by omega,h2,h3⟩
   ·rintro ⟨_,j,h1,h2,h3⟩
    by_cases hj:(j:Int)=f + 1
    ·left;rw [show (f + 1).toNat=j by omega];exact h3
    ·exact .inr ⟨by omega,j,by omega,h2,h3⟩
 rw [KT,dif_neg (by have:=H.fa;omega)]
 by_cases hp:0 < p.size
 ·rw [dif_pos hp]
  have hn:=Xj hp
  obtain ⟨c,l,hl⟩:=KH hp
  obtain ⟨x,l',P',h1,h2,h3⟩:=VT H.pp (by rw [hl];simp)
  rw [h1] at hn
  obtain ⟨n0,n1,n2,n3⟩:=hn
  have ht:=jg hp n0
  rw [dif_neg n0]
  subst h2
  cases hx:x.isAny
  ·have hna:¬ ((qN p).2.2=false ∧ (qN p).1=37):=fun h4=>by rw [n2.2 h4] at hx;cases hx
   rw [if_neg hna]
   cases hat:vP s a p
   ·rw [if_neg (by simp)]
    have hm:mat (x :: P') (s.data.toList.drop a)=false:=by
     rw [vv hx]
     cases hd:s.data.toList.drop a with
     | nil=>rfl
     | cons d r =>
      have hsd:s[a]?=some d:=by
       rw [vI]
       have:=congrArg (fun m=>m[0]?) hd
       simpa using this
      have:=n3 hx s a d hsd
      rw [hat] at this
      simp only [← this,Bool.false_and]
    have:=hback hm
    simpa only [dite_eq_ite] using this
   ·rw [if_pos rfl]
    obtain ⟨d,hd⟩:∃ d,s[a]?=some d:=by
     unfold vP at hat
     cases hs:s[a]? with
     | none=>rw [hs] at hat;cases hat
     | some d=>exact ⟨d,rfl⟩
    have has:a < s.size:=by
     rcases Nat.lt_or_ge a s.size with h4 | h4
     ·exact h4
     ·rw [getElem?_neg s a (by omega)] at hd;cases hd
    have hfit:x.fits d=true:=by rw [← n3 hx s a d hd];exact hat
    have:=Zb s (jY p) back f (a + 1) P' Bk ⟨by rw [n1];exact h3,fun h4=>by
     obtain ⟨b1,B,b2,b3,b4⟩:=H.bk h4
     refine ⟨b1,B ++ [x],by rw [b2];simp,fun y hy=>?_,by simp;omega⟩
     rcases List.mem_append.1 hy with hy | hy
     ·exact b3 y hy
     ·rw [List.mem_singleton.1 hy];exact hx,H.f0,by have:=H.fa;omega,has⟩
    rw [this]
    have hdrop:s.data.toList.drop a=d :: s.data.toList.drop (a + 1):=by
     rw [vI] at hd
     obtain ⟨h5,h6⟩:=List.getElem?_eq_some_iff.1 hd
     rw [List.drop_eq_getElem_cons h5,h6]
    rw [hdrop,vv hx]
    simp only [hfit,Bool.true_and]
  ·rw [if_pos (n2.1 hx)]
   have hx2:x = .any:=by cases x <;> first | rfl | (cases hx)
   subst hx2
   have hta:=H.top
   have:=Zb s (jY p) (jY p) a a P' P' ⟨by rw [n1];exact h3,fun _=>⟨by rw [n1];exact h3,[],rfl,by simp,by simp⟩,by omega,by omega,hta⟩
   rw [this,yz]
   constructor
   ·rintro (h | ⟨_,j,h4,h5,h6⟩)
    ·exact .inl ⟨0,Nat.zero_le _,by simpa using h⟩
    ·refine .inl ⟨j - a,by rw [List.length_drop];omega,?_⟩
     rw [List.drop_drop,show a + (j - a)=j by omega];exact h6
   ·rintro (⟨k,hk,h⟩ | ⟨h4,j,h5,h6,h7⟩)
    ·rw [List.length_drop] at hk
     rw [List.drop_drop] at h
     cases k with
     | zero=>left;simpa using h
     | succ k=>exact .inr ⟨by omega,a + (k + 1),by omega,by omega,h⟩
    ·obtain ⟨b1,B,b2,b3,b4⟩:=H.bk h4
     rw [b2] at h7
     obtain ⟨g1,g2⟩:=XF B _ _ b3 h7
     rw [List.length_drop] at g1
     rw [List.drop_drop,yz] at g2
     obtain ⟨k,hk,g3⟩:=g2
     rw [List.length_drop] at hk
     rw [List.drop_drop] at g3
     exact .inr ⟨by omega,j + B.length + k,by omega,by omega,g3⟩
 ·rw [dif_neg hp]
  have hnil:p.data.toList=[]:=List.eq_nil_of_length_eq_zero (by have:p.size=p.data.toList.length:=rfl;omega)
  have hP:P=[]:=by
   have:=H.pp
   rw [hnil,xR] at this;cases this;rfl
  subst hP
  by_cases has:a=s.size
  ·rw [if_pos has]
   simp only [true_iff]
   left
   rw [has,← hsz,List.drop_length];exact JH
  ·rw [if_neg has]
   have hm:mat [] (s.data.toList.drop a)=false:=by
    rw [mat]
    have hta:=H.top
    cases hd:s.data.toList.drop a with
    | nil=>rw [List.drop_eq_nil_iff] at hd;omega
    | cons d r=>rfl
   have:=hback hm
   simpa only [dite_eq_ite] using this
 termination_by (((s.size:Int) - f).toNat,p.size)
 decreasing_by
  ·exact Prod.Lex.left _ _ (by omega)
  ·exact Prod.Lex.right _ ht
  ·rcases Nat.lt_or_ge (((s.size:Int) - a).toNat) (((s.size:Int) - f).toNat) with h | h
   ·exact Prod.Lex.left _ _ h
   ·have e:((s.size:Int) - a).toNat=((s.size:Int) - f).toNat:=by have:=H.fa;omega
    rw [e];exact Prod.Lex.right _ ht
theorem zeI (s p:ByteArray):Ze s p=match qv p.data.toList with
  | some P=>(mat P s.data.toList,0)
  | none=>(false,40):=by
 unfold Ze
 rw [VR]
 cases hP:qv p.data.toList with
 | none=>rfl
 | some P =>
  simp only [Option.isSome_some,if_true]
  have:=Zb s p ⟨#[]⟩ (-1) 0 P [] ⟨hP,fun h=>absurd h (by omega),by omega,by omega,by omega⟩
  rw [List.drop_zero] at this
  congr 1
  rw [Bool.eq_iff_iff,this]
  constructor
  ·rintro (h | ⟨h,_⟩)
   ·exact h
   ·omega
  ·exact .inl
end Go.Ev
end
section
open Go Go.Proofs
namespace Go.Ev
def pcC:Pc → List CV
 | .any=>[.bool true,.bool false,.int .u8 0]
 | .one=>[.bool false,.bool true,.int .u8 0]
 | .ch c=>[.bool false,.bool false,.int .u8 c.toNat]
def zay:Option (List Pc) → AV
 | some P=>.tup [.c (.lst 3 false (P.map pcC)),cB true]
 | none=>.tup [.c (.lst 3 false []),cB false]
theorem zkV (P:List Pc):((P.map pcC).all fun y=>y.length == 3)=true:=List.all_eq_true.2 fun y hy=>by
 obtain ⟨x,_,rfl⟩:=List.mem_map.1 hy
 cases x <;> rfl
theorem V7 (c:UInt8) (n:Nat) (hn:n < 256):(((c.toNat:Nat):Int) == (n:Int))=(c == UInt8.ofNat n):=by
 rw [Bool.eq_iff_iff];simp only [beq_iff_eq]
 constructor
 ·intro h
  have:c.toNat=n:=by omega
  apply UInt8.toNat_inj.1
  rw [this,UInt8.toNat_ofNat'];omega
 ·rintro rfl
  rw [UInt8.toNat_ofNat'];omega
theorem JJ {p:ByteArray} {j:Nat} {c:UInt8} (hc:p[j]?=some c):p.data.toList.drop j=c :: p.data.toList.drop (j + 1):=by
 rw [vI] at hc
 obtain ⟨h5,h6⟩:=List.getElem?_eq_some_iff.1 hc
 rw [List.drop_eq_getElem_cons h5,h6]
theorem vX {S l l':List UInt8} {x:Pc} {D:List Pc} (h:qv S=(qv l).map (D ++ ·)) (hn:yB l=some (x,l')):qv S=(qv l').map ((D ++ [x]) ++ ·):=by
 rw [h,yx hn]
 cases qv l' with
 | none=>rfl
 | some P=>simp
theorem Yd {S l:List UInt8} {D:List Pc} (h:qv S=(qv l).map (D ++ ·)) (hl:l ≠ []) (hn:yB l=none):qv S=none:=by
 rw [h,yD hl hn];rfl
theorem zd7 (p:ByteArray) (hs:p.size ≤ 1000000000):Good Tryz.prog 172 [cS p] [] (zay (qv p.data.toList)) []:=by
 have hsz:p.data.toList.length=p.size:=rfl
 refine Good.zg TT 4000 Tryz.func172 rfl rfl ?_
 unfold Tryz.f172
 simp only [go_sem,go_sem_proc]
 refine Lp.atP TT 4000 0 (Nat.le_of_ble_eq_true rfl) [false,false,true,true,true,true,true,true,true,true,true,true,true,true,true,true,true,true,true,true,true,true,true,true,true,true,true,true,true,true,true,true,true,true,true,true,true,true,true,true,true,true,true,true,true,true,true,true,true,true,true,true,true,true,true,true,true,true,true,true,true,true,true,true,true,true,true,true,true] (fun a:Nat × List Pc=>p.size - a.1) (fun a=>a.1 ≤ p.size ∧ a.2.length ≤ a.1 ∧ qv p.data.toList=(qv (p.data.toList.drop a.1)).map (a.2 ++ ·)) (fun a=>[(2,.dead),(4,.sl 0 0 a.2.length),(5,cI a.1)]) (fun a=>[.rows 3 201 (a.2.map pcC)]) [1] ((0,[])) (⟨Nat.zero_le _,Nat.zero_le _,by simp⟩) ?_ ?_
 ·simp only [go_sem,go_sem_proc]
  first | done | rfl
 ·rintro ⟨j,D⟩ ⟨i1,i1b,i2⟩
  simp only at i1 i1b i2
  have hl3:=zkV D
  rcases Nat.lt_or_ge j p.size with hlt | hge
  ·obtain ⟨c,hc⟩:=JT hlt
   have hw:=zh (j:=j) (by omega)
   have f37:(((c.toNat:Nat):Int) == 37)=(c == 37):=V7 c 37 (by omega)
   have f95:(((c.toNat:Nat):Int) == 95)=(c == 95):=V7 c 95 (by omega)
   have f92:(((c.toNat:Nat):Int) != 92) = !(c == 92):=congrArg not (V7 c 92 (by omega))
   rw [JJ hc] at i2
   by_cases h37:c=37
   ·have g:(c == 37)=true:=by simp [h37]
    have hn:yB (c :: p.data.toList.drop (j + 1))=some (.any,p.data.toList.drop (j + 1)):=by
     rw [kT,if_neg (by rw [h37];decide)];unfold zj5;rw [if_pos h37]
    have hnext:List.map pcC D ++ [pcC (.any)]=List.map pcC (D ++ [.any]):=by simp
    simp only [pcC] at hnext
    simp only [go_sem,hlt,hc,f37,g,hw,hl3,Nat.zero_add,List.length_map,hnext,go_sem_proc]
    exact ⟨by omega,(j + 1,D ++ [.any]),[2],by simp only;omega,⟨by simp only;omega,by simp;omega,by simp only;exact vX i2 hn⟩,rfl,⟨zq.of_eq (by simp only [List.length_append,List.length_cons,List.length_nil];rfl),zq.of_eq rfl⟩,rfl⟩
   have g1:(c == 37)=false:=by simp [h37]
   by_cases h95:c=95
   ·have g:(c == 95)=true:=by simp [h95]
    have hn:yB (c :: p.data.toList.drop (j + 1))=some (.one,p.data.toList.drop (j + 1)):=by
     rw [kT,if_neg (by rw [h95];decide)];unfold zj5;rw [if_neg h37,if_pos h95]
    have hnext:List.map pcC D ++ [pcC (.one)]=List.map pcC (D ++ [.one]):=by simp
    simp only [pcC] at hnext
    simp only [go_sem,hlt,hc,f37,g1,f95,g,hw,hl3,Nat.zero_add,List.length_map,hnext,go_sem_proc]
    exact ⟨by omega,(j + 1,D ++ [.one]),[2],by simp only;omega,⟨by simp only;omega,by simp;omega,by simp only;exact vX i2 hn⟩,rfl,⟨zq.of_eq (by simp only [List.length_append,List.length_cons,List.length_nil];rfl),zq.of_eq rfl⟩,rfl⟩
   have g2:(c == 95)=false:=by simp [h95]
   by_cases h92:c=92
   case neg =>
    have g:(c == 92)=false:=by simp [h92]
    have hn:yB (c :: p.data.toList.drop (j + 1))=some (.ch c,p.data.toList.drop (j + 1)):=by
     rw [kT,if_neg h92];unfold zj5;rw [if_neg h37,if_neg h95]
    have hnext:List.map pcC D ++ [pcC (.ch c)]=List.map pcC (D ++ [.ch c]):=by simp
    simp only [pcC] at hnext
    simp only [go_sem,hlt,hc,f37,g1,f95,g2,f92,g,hw,hl3,Nat.zero_add,List.length_map,hnext,go_sem_proc]
    exact ⟨by omega,(j + 1,D ++ [.ch c]),[2],by simp only;omega,⟨by simp only;omega,by simp;omega,by simp only;exact vX i2 hn⟩,rfl,⟨zq.of_eq (by simp only [List.length_append,List.length_cons,List.length_nil];rfl),zq.of_eq rfl⟩,rfl⟩
   have g3:(c == 92)=true:=by simp [h92]
   have hw2:IntKind.wrap .i64 (((j + 1:Nat):Int) + 1)=((j + 2:Nat):Int):=zh (j:=j + 1) (by omega)
   rcases Nat.lt_or_ge (j + 1) p.size with hlt2 | hge2
   case inr =>
    have hnil:p.data.toList.drop (j + 1)=[]:=by rw [List.drop_eq_nil_iff];omega
    have hbad:=Yd i2 (by simp) (by rw [kT,if_pos h92,hnil])
    have he:(((j + 1:Nat):Int) == (p.size:Int))=true:=by simp;omega
    rw [hbad]
    simp only [go_sem,hlt,hc,f37,g1,f95,g2,f92,g3,hw,he,go_sem_proc]
    exact Le.refl _
   obtain ⟨d,hd2⟩:=JT hlt2
   have he:(((j + 1:Nat):Int) == (p.size:Int))=false:=by simp;omega
   have d37:(((d.toNat:Nat):Int) != 37) = !(d == 37):=congrArg not (V7 d 37 (by omega))
   have d95:(((d.toNat:Nat):Int) != 95) = !(d == 95):=congrArg not (V7 d 95 (by omega))
   have d92:(((d.toNat:Nat):Int) != 92) = !(d == 92):=congrArg not (V7 d 92 (by omega))
   rw [JJ hd2] at i2
   cases hsp:spec d
   ·have hbad:=Yd i2 (by simp) (by rw [kT,if_pos h92];simp only [hsp];rfl)
    unfold spec at hsp
    simp only [Bool.or_eq_false_iff] at hsp
    rw [hbad]
    simp only [go_sem,hlt,hc,f37,g1,f95,g2,f92,g3,hw,he,hlt2,hd2,d37,d95,d92,hsp,go_sem_proc]
    exact Le.refl _
   ·have hn:yB (c :: d :: p.data.toList.drop (j + 1 + 1))=some (.ch d,p.data.toList.drop (j + 2)):=by
     rw [kT,if_pos h92];simp only [hsp];rfl
    unfold spec at hsp
    cases e1:(d == 37)
    ·cases e2:(d == 95)
     ·rw [e1,e2] at hsp
      have e3:(d == 92)=true:=by simpa using hsp
      have hnext:List.map pcC D ++ [pcC (.ch d)]=List.map pcC (D ++ [.ch d]):=by simp
      simp only [pcC] at hnext
      simp only [go_sem,hlt,hc,f37,g1,f95,g2,f92,g3,he,hlt2,hd2,d37,d95,d92,e1,e2,e3,hw2,hw,hl3,Nat.zero_add,List.length_map,hnext,go_sem_proc]
      exact ⟨by omega,(j + 2,D ++ [.ch d]),[2],by simp only;omega,⟨by simp only;omega,by simp;omega,by simp only;exact vX i2 hn⟩,rfl,⟨zq.of_eq (by simp only [List.length_append,List.length_cons,List.length_nil];rfl),zq.of_eq rfl⟩,rfl⟩
     ·skip
      have hnext:List.map pcC D ++ [pcC (.ch d)]=List.map pcC (D ++ [.ch d]):=by simp
      simp only [pcC] at hnext
      simp only [go_sem,hlt,hc,f37,g1,f95,g2,f92,g3,he,hlt2,hd2,d37,d95,d92,e1,e2,hw2,hw,hl3,Nat.zero_add,List.length_map,hnext,go_sem_proc]
      exact ⟨by omega,(j + 2,D ++ [.ch d]),[2],by simp only;omega,⟨by simp only;omega,by simp;omega,by simp only;exact vX i2 hn⟩,rfl,⟨zq.of_eq (by simp only [List.length_append,List.length_cons,List.length_nil];rfl),zq.of_eq rfl⟩,rfl⟩
    ·skip
     have hnext:List.map pcC D ++ [pcC (.ch d)]=List.map pcC (D ++ [.ch d]):=by simp
     simp only [pcC] at hnext
     simp only [go_sem,hlt,hc,f37,g1,f95,g2,f92,g3,he,hlt2,hd2,d37,d95,d92,e1,hw2,hw,hl3,Nat.zero_add,List.length_map,hnext,go_sem_proc]
     exact ⟨by omega,(j + 2,D ++ [.ch d]),[2],by simp only;omega,⟨by simp only;omega,by simp;omega,by simp only;exact vX i2 hn⟩,rfl,⟨zq.of_eq (by simp only [List.length_append,List.length_cons,List.length_nil];rfl),zq.of_eq rfl⟩,rfl⟩
  ·have:j=p.size:=by omega
   subst this
   rw [← hsz,List.drop_length,xR] at i2
   have i3:qv p.data.toList=some D:=by rw [i2];simp
   rw [i3]
   have hk:List.take D.length (List.map pcC D)=List.map pcC D:=List.take_of_length_le (by simp)
   simp only [go_sem,Nat.lt_irrefl,List.length_map,Nat.zero_add,Nat.le_refl,hk,go_sem_proc]
   exact Le.refl _
end Go.Ev
end
section
open Go Go.Proofs
namespace Go.Ev
def dpR (S:List UInt8) (Q:List Pc) (n:Nat):List (List CV):=(List.range n).map fun i=>[.bool (mat Q (S.take i))]
theorem yr (S:List UInt8) (Q:List Pc) (n:Nat):(dpR S Q n).length=n:=by simp [dpR]
theorem ZG (S:List UInt8) (Q:List Pc) {n i:Nat} (h:i < n):(dpR S Q n)[i]?=some [.bool (mat Q (S.take i))]:=by
 unfold dpR
 rw [List.getElem?_map,List.getElem?_range h];rfl
def dpM (S:List UInt8) (Q:List Pc) (k n:Nat):List (List CV):=dpR S Q k ++ List.replicate (n - k) [.bool false]
theorem zjd (S:List UInt8) (Q:List Pc) (n:Nat):dpM S Q 0 n=List.replicate n [.bool false]:=by simp [dpM,dpR]
theorem zax (S:List UInt8) (Q:List Pc) (n:Nat):dpM S Q n n=dpR S Q n:=by simp [dpM]
theorem zbx (S:List UInt8) (Q:List Pc) (k:Nat):dpR S Q (k + 1)=dpR S Q k ++ [[.bool (mat Q (S.take k))]]:=by unfold dpR;rw [List.range_succ,List.map_append];rfl
theorem zj1 (S:List UInt8) (Q:List Pc) {k n i:Nat} (h:i < k):(dpM S Q k n)[i]?=some [.bool (mat Q (S.take i))]:=by
 unfold dpM
 rw [List.getElem?_append_left (by rw [yr];exact h),ZG S Q h]
theorem JY (S:List UInt8) (Q:List Pc) {k n:Nat} (h:k < n):(dpM S Q k n)[k]?=some [.bool false]:=by
 unfold dpM
 rw [List.getElem?_append_right (by rw [yr];exact Nat.le_refl _),yr,Nat.sub_self,List.getElem?_replicate,if_pos (by omega)]
theorem yC (S:List UInt8) (Q:List Pc) {k n:Nat} {b:Bool} (h:k < n) (hb:b=mat Q (S.take k)):(dpM S Q k n).set k [.bool b]=dpM S Q (k + 1) n:=by
 subst hb
 unfold dpM
 rw [zbx,List.set_append_right _ _ (by rw [yr];exact Nat.le_refl _),yr,Nat.sub_self]
 obtain ⟨m,hm⟩:∃ m,n - k=m + 1:=⟨n - k - 1,by omega⟩
 rw [hm,List.replicate_succ,List.set_cons_zero,List.append_assoc,show n - (k + 1)=m by omega];rfl
theorem zbN (S:List UInt8) (Q:List Pc) {k n:Nat} (h:k < n) (hb:mat Q (S.take k)=false):dpM S Q k n=dpM S Q (k + 1) n:=by
 unfold dpM
 obtain ⟨m,hm⟩:∃ m,n - k=m + 1:=⟨n - k - 1,by omega⟩
 rw [zbx,hb,hm,List.replicate_succ,List.append_assoc,show n - (k + 1)=m by omega];rfl
theorem zbr {S:List UInt8} {i:Nat} (h:i < S.length):S.take (i + 1)=S.take i ++ [S[i]]:=(List.take_append_getElem h).symm
theorem ziW (Q:List Pc) (S:List UInt8) (i:Nat) (hi:i ≤ S.length):mat (Q ++ [.any]) (S.take i)=(mat Q (S.take i) || (decide (0 < i) && mat (Q ++ [.any]) (S.take (i - 1)))):=by
 rw [Bool.eq_iff_iff,Bool.or_eq_true,Bool.and_eq_true,decide_eq_true_iff,Qc,Qc]
 simp only [List.length_take,List.take_take]
 constructor
 ·rintro ⟨k,hk,h⟩
  rcases Nat.lt_or_ge k i with h1 | h1
  ·exact .inr ⟨by omega,k,by omega,by rw [Nat.min_eq_left (by omega)] at h ⊢;exact h⟩
  ·left;rw [show min k i=i by omega] at h;exact h
 ·rintro (h | ⟨h0,k,hk,h⟩)
  ·exact ⟨i,by omega,by rw [Nat.min_self];exact h⟩
  ·exact ⟨k,by omega,by rw [Nat.min_eq_left (by omega)] at h ⊢;exact h⟩
theorem XO {x:Pc} (hx:x.isAny=false) (Q:List Pc) (S:List UInt8):mat (Q ++ [x]) (S.take 0)=false:=by
 cases h:mat (Q ++ [x]) (S.take 0)
 ·rfl
 ·rw [List.take_zero,zbd hx] at h
  obtain ⟨u,d,h1,_⟩:=h
  simp at h1
theorem zbs {x:Pc} (hx:x.isAny=false) (Q:List Pc) (S:List UInt8) (i:Nat) (hi:i < S.length):mat (Q ++ [x]) (S.take (i + 1))=(mat Q (S.take i) && x.fits S[i]):=by
 rw [Bool.eq_iff_iff,Bool.and_eq_true,zbd hx,zbr hi]
 constructor
 ·rintro ⟨u,d,h1,h2,h3⟩
  have:=List.append_inj' h1 rfl
  obtain ⟨h4,h5⟩:=this
  cases h5
  rw [h4];exact ⟨h3,h2⟩
 ·rintro ⟨h1,h2⟩
  exact ⟨_,_,rfl,h2,h1⟩
theorem ziu (S:List UInt8) (n:Nat) (hS:S.length=n):(List.replicate (n + 1) [CV.bool false]).set 0 [.bool true]=dpR S [] (n + 1):=by
 apply List.ext_getElem?
 intro i
 rcases Nat.lt_or_ge i (n + 1) with h | h
 ·rw [ZG S [] h,List.getElem?_set]
  cases i with
  | zero=>simp [mat]
  | succ i =>
   rw [if_neg (by omega),List.getElem?_replicate,if_pos h]
   have:mat [] (S.take (i + 1))=false:=by
    rw [zbr (by omega)]
    cases hm:mat [] (S.take i ++ [S[i]'(by omega)])
    ·rfl
    ·rw [mat] at hm;simp at hm;rw [hm] at hS;simp at hS;omega
   rw [this]
 ·rw [List.getElem?_eq_none (by simp;omega),List.getElem?_eq_none (by rw [yr];exact h)]
theorem Xc (l:List UInt8):∀ P,qv l=some P → P.length ≤ l.length:=by
 intro P h
 by_cases hl:l=[]
 ·subst hl;rw [xR] at h;cases h;exact Nat.le_refl _
 ·obtain ⟨x,l',P',h1,h2,h3⟩:=VT h hl
  have h4:=Yf h1
  have:=Xc l' P' h3
  rw [h2,List.length_cons];omega
 termination_by l.length
theorem zjb (s p:ByteArray) (hs:s.size ≤ 10000000) (hp:p.size ≤ 1000000000):Good Tryz.prog 120 [cS s,cS p] [] (.tup [cB (Ze s p).1,cI (Ze s p).2]) []:=by
 have hsz:s.data.toList.length=s.size:=rfl
 have hsz':p.data.toList.length=p.size:=rfl
 have hP:=zd7 p hp
 rw [zeI]
 refine Good.zg TT 4000 Tryz.func120 rfl rfl ?_
 unfold Tryz.f120
 simp only [go_sem,go_sem_proc]
 refine Cl.pure TT 4000 hP rfl (by cases qv p.data.toList <;> rfl) ?_
 cases hp2:qv p.data.toList with
 | none=>simp only [go_sem,zay,go_sem_proc]
 | some P =>
 have hw0:IntKind.wrap .i64 ((s.size:Int) + 1)=((s.size + 1:Nat):Int):=zh (by omega)
 have hst:=ziu s.data.toList s.size hsz
 have hPl:=Xc _ P hp2
 rw [hsz'] at hPl
 simp only [go_sem,zay,hw0,go_sem_proc]
 refine ⟨⟨by omega,by omega⟩,by omega,?_⟩
 refine Lp.atP TT 4000 0 (Nat.le_of_ble_eq_true rfl) [false,false,false,false,false,false,false,false,true,false,true,true,true,false,false,false,false,false,false,false,false,false,false,false,false,false,false,false,true,true,true,true,true,true,true,true,true,true,true,true,true,true,true,true,true,true,true,true,true,true,true,true,true,true,true,true,true,true,true,true,true,true,true,true,true,true,true,true,true,true,true,true,true,true,true,true,true,true,true,true,true,true,true,true,true,true,true,true,true] (fun j:Nat=>P.length - j) (fun j=>j ≤ P.length) (fun j=>[(8,.sl 0 0 (s.size + 1)),(23,.dead),(24,.dead),(25,.dead),(28,cI j)]) (fun j=>[.rows 1 4 (dpR s.data.toList (P.take j) (s.size + 1))]) [0] (0) (Nat.zero_le _) ?_ ?_
 ·simp only [go_sem,List.take_zero,go_sem_proc]
  exact ⟨rfl,by rw [← hst];rfl⟩
 ·rintro j i1
  rcases Nat.lt_or_ge j P.length with hlt | hge
  ·obtain ⟨x,hx,hm,ht,hd⟩:=vj hlt
   have hw:=zh (j:=j) (by omega)
   have hz:=zjd s.data.toList (P.take j ++ [x]) (s.size + 1)
   have hxl:(List.map pcC P)[j]?=some (pcC x):=by rw [List.getElem?_map,hx];rfl
   cases x with
   | any =>
    simp only [pcC] at hxl
    simp only [go_sem,hlt,hxl,List.length_map,hw0,go_sem_proc]
    refine ⟨⟨by omega,by omega⟩,?_⟩
    refine Lp.at TT 4000 3 (Nat.le_of_ble_eq_true rfl) [false,false,false,false,false,false,false,false,false,false,false,false,true,false,false,false,false,false,false,false,false,false,false,false,false,false,false,false,false,false,false,false,false,false,false,false,false,false,true,true,true,true,true,true,true,true,true,true,true,true,true,true,true,true,true,true,true,true,true,true,true,true,true,true,true,true,true,true,true,true,true,true,true,true,true,true,true,true,true,true,true,true,true,true,true,true,true] (fun k:Nat=>s.size + 1 - k) (fun k=>k ≤ s.size + 1) (fun k=>[(38,cI k)]) (fun k=>[(2,.rows 1 4 (dpM s.data.toList (P.take j ++ [.any]) k (s.size + 1)))]) (0) (Nat.zero_le _) ?_ ?_
    ·simp only [go_sem,hz,go_sem_proc]
    ·rintro k k1
     rcases Nat.lt_or_ge k (s.size + 1) with kl | kg
     ·have kw:=zh (j:=k) (by omega)
      have kn:=ZG s.data.toList (P.take j) kl
      have kh:=JY s.data.toList (P.take j ++ [.any]) kl
      have ks:=ziW (P.take j) s.data.toList k (by omega)
      cases m1:mat (P.take j) (s.data.toList.take k)
      ·rw [m1,Bool.false_or] at ks
       rw [m1] at kn
       rcases Nat.eq_zero_or_pos k with k0 | k0
       ·have kd:decide (0 < k)=false:=decide_eq_false (by omega)
        rw [kd,Bool.false_and] at ks
        have k0':¬ ((k:Int) > 0):=by omega
        have kset:=yC (b:=false) s.data.toList (P.take j ++ [.any]) kl ks.symm
        simp only [go_sem,kl,Nat.zero_add,kn,k0',kh,kset,kw,go_sem_proc]
        exact ⟨k + 1,by omega,by omega,by simp only [go_sem,go_sem_proc]⟩
       ·have kd:decide (0 < k)=true:=decide_eq_true k0
        rw [kd,Bool.true_and] at ks
        have kp:=zj1 s.data.toList (P.take j ++ [.any]) (k:=k) (n:=s.size + 1) (i:=k - 1) (by omega)
        have kset:=yC s.data.toList (P.take j ++ [.any]) kl ks.symm
        have kw2:IntKind.wrap .i64 ((k:Int) - 1)=((k - 1:Nat):Int):=by rw [qd (by omega) (by omega)];omega
        have k0':(k:Int) > 0:=by omega
        have kl1:k - 1 < s.size + 1:=by omega
        simp only [go_sem,kl,Nat.zero_add,kn,k0',kw2,kl1,kp,kh,kset,kw,go_sem_proc]
        exact ⟨k + 1,by omega,by omega,by simp only [go_sem,go_sem_proc]⟩
      ·rw [m1,Bool.true_or] at ks
       rw [m1] at kn
       have kset:=yC (b:=true) s.data.toList (P.take j ++ [.any]) kl ks.symm
       simp only [go_sem,kl,Nat.zero_add,kn,kh,kset,kw,go_sem_proc]
       exact ⟨k + 1,by omega,by omega,by simp only [go_sem,go_sem_proc]⟩
     ·have:k=s.size + 1:=by omega
      subst this
      have hall:=zax s.data.toList (P.take j ++ [.any]) (s.size + 1)
      rw [← ht] at hall
      simp only [go_sem,Nat.lt_irrefl,← ht,hall,hw,go_sem_proc]
      refine ⟨j + 1,[2],by omega,by omega,rfl,⟨zq.of_eq rfl,zq.of_eq rfl⟩,rfl⟩
   | one =>
    simp only [pcC] at hxl
    simp only [go_sem,hlt,hxl,List.length_map,hw0,go_sem_proc]
    refine ⟨⟨by omega,by omega⟩,?_⟩
    refine Lp.at TT 4000 3 (Nat.le_of_ble_eq_true rfl) [false,false,false,false,false,false,false,false,false,false,false,false,true,false,false,false,false,false,false,false,false,false,false,false,false,false,false,false,false,false,false,false,false,false,false,false,false,false,true,true,true,true,true,true,true,true,true,true,true,true,true,true,true,true,true,true,true,true,true,true,true,true,true,true,true,true,true,true,true,true,true,true,true,true,true,true,true,true,true,true,true,true,true,true,true,true,true] (fun k:Nat=>s.size + 1 - k) (fun k=>k ≤ s.size + 1) (fun k=>[(38,cI k)]) (fun k=>[(2,.rows 1 4 (dpM s.data.toList (P.take j ++ [.one]) k (s.size + 1)))]) (0) (Nat.zero_le _) ?_ ?_
    ·simp only [go_sem,hz,go_sem_proc]
    ·rintro k k1
     rcases Nat.lt_or_ge k (s.size + 1) with kl | kg
     ·have kw:=zh (j:=k) (by omega)
      have kh:=JY s.data.toList (P.take j ++ [.one]) kl
      rcases Nat.eq_zero_or_pos k with k0 | k0
      ·have k0':¬ ((k:Int) > 0):=by omega
       have kkeep:=zbN s.data.toList (P.take j ++ [.one]) kl (by rw [k0];exact XO rfl _ _)
       simp only [go_sem,kl,Nat.zero_add,k0',kkeep,kw,go_sem_proc]
       exact ⟨k + 1,by omega,by omega,by simp only [go_sem,go_sem_proc]⟩
      ·obtain ⟨i,rfl⟩:∃ i,k=i + 1:=⟨k - 1,by omega⟩
       have k0':((i + 1:Nat):Int) > 0:=by omega
       have hi:i < s.data.toList.length:=by rw [hsz];omega
       have ks:=zbs (x:=.one) rfl (P.take j) s.data.toList i hi
       have kw2:IntKind.wrap .i64 (((i + 1:Nat):Int) - 1)=((i:Nat):Int):=by rw [qd (by omega) (by omega)];omega
       have kn:=ZG s.data.toList (P.take j) (n:=s.size + 1) (i:=i) (by omega)
       have kl1:i < s.size + 1:=by omega
       have kl2:i < s.size:=by omega
       have ksd:s[i]?=some (s.data.toList[i]):=by rw [vI,List.getElem?_eq_getElem hi]
       generalize s.data.toList[i]=d at ks ksd
       cases m1:mat (P.take j) (s.data.toList.take i)
       ·rw [m1,Bool.false_and] at ks
        rw [m1] at kn
        have kset:=yC (b:=false) s.data.toList (P.take j ++ [.one]) kl ks.symm
        simp only [go_sem,kl,Nat.zero_add,k0',go_sem_proc]
        refine Dr.of TT (by kernel_rfl) [] trivial ?_
        simp only [go_sem,kl,Nat.zero_add,kn,kw2,kl1,kl2,kh,kset,kw,go_sem_proc]
        refine jy.of TT 4000 (zJ (by kernel_rfl)) ?_
        simp only [go_sem,kw,go_sem_proc]
        exact ⟨i + 1 + 1,by omega,by omega,by simp only [go_sem,go_sem_proc]⟩
       ·rw [m1,Bool.true_and] at ks
        simp only [Pc.fits] at ks
        rw [m1] at kn
        have kset:=yC (b:=true) s.data.toList (P.take j ++ [.one]) kl ks.symm
        simp only [go_sem,kl,Nat.zero_add,k0',go_sem_proc]
        refine Dr.of TT (by kernel_rfl) [] trivial ?_
        simp only [go_sem,kl,Nat.zero_add,kn,kw2,kl1,kl2,ksd,kh,kset,kw,go_sem_proc]
        refine jy.of TT 4000 (zJ (by kernel_rfl)) ?_
        simp only [go_sem,kw,go_sem_proc]
        exact ⟨i + 1 + 1,by omega,by omega,by simp only [go_sem,go_sem_proc]⟩
     ·have:k=s.size + 1:=by omega
      subst this
      have hall:=zax s.data.toList (P.take j ++ [.one]) (s.size + 1)
      rw [← ht] at hall
      simp only [go_sem,Nat.lt_irrefl,← ht,hall,hw,go_sem_proc]
      refine ⟨j + 1,[2],by omega,by omega,rfl,⟨zq.of_eq rfl,zq.of_eq rfl⟩,rfl⟩
   | ch c =>
    simp only [pcC] at hxl
    simp only [go_sem,hlt,hxl,List.length_map,hw0,go_sem_proc]
    refine ⟨⟨by omega,by omega⟩,?_⟩
    refine Lp.at TT 4000 3 (Nat.le_of_ble_eq_true rfl) [false,false,false,false,false,false,false,false,false,false,false,false,true,false,false,false,false,false,false,false,false,false,false,false,false,false,false,false,false,false,false,false,false,false,false,false,false,false,true,true,true,true,true,true,true,true,true,true,true,true,true,true,true,true,true,true,true,true,true,true,true,true,true,true,true,true,true,true,true,true,true,true,true,true,true,true,true,true,true,true,true,true,true,true,true,true,true] (fun k:Nat=>s.size + 1 - k) (fun k=>k ≤ s.size + 1) (fun k=>[(38,cI k)]) (fun k=>[(2,.rows 1 4 (dpM s.data.toList (P.take j ++ [.ch c]) k (s.size + 1)))]) (0) (Nat.zero_le _) ?_ ?_
    ·simp only [go_sem,hz,go_sem_proc]
    ·rintro k k1
     rcases Nat.lt_or_ge k (s.size + 1) with kl | kg
     ·have kw:=zh (j:=k) (by omega)
      have kh:=JY s.data.toList (P.take j ++ [.ch c]) kl
      rcases Nat.eq_zero_or_pos k with k0 | k0
      ·have k0':¬ ((k:Int) > 0):=by omega
       have kkeep:=zbN s.data.toList (P.take j ++ [.ch c]) kl (by rw [k0];exact XO rfl _ _)
       simp only [go_sem,kl,Nat.zero_add,k0',kkeep,kw,go_sem_proc]
       exact ⟨k + 1,by omega,by omega,by simp only [go_sem,go_sem_proc]⟩
      ·obtain ⟨i,rfl⟩:∃ i,k=i + 1:=⟨k - 1,by omega⟩
       have k0':((i + 1:Nat):Int) > 0:=by omega
       have hi:i < s.data.toList.length:=by rw [hsz];omega
       have ks:=zbs (x:=.ch c) rfl (P.take j) s.data.toList i hi
       have kw2:IntKind.wrap .i64 (((i + 1:Nat):Int) - 1)=((i:Nat):Int):=by rw [qd (by omega) (by omega)];omega
       have kn:=ZG s.data.toList (P.take j) (n:=s.size + 1) (i:=i) (by omega)
       have kl1:i < s.size + 1:=by omega
       have kl2:i < s.size:=by omega
       have ksd:s[i]?=some (s.data.toList[i]):=by rw [vI,List.getElem?_eq_getElem hi]
       generalize s.data.toList[i]=d at ks ksd
       have kb:(((d.toNat:Nat):Int) == ((c.toNat:Nat):Int))=(c == d):=by
        rw [Bool.eq_iff_iff];simp only [beq_iff_eq]
        constructor
        ·intro h
         have:d.toNat=c.toNat:=by omega
         exact (UInt8.toNat_inj.1 this).symm
        ·rintro rfl;rfl
       cases m1:mat (P.take j) (s.data.toList.take i)
       ·rw [m1,Bool.false_and] at ks
        rw [m1] at kn
        have kset:=yC (b:=false) s.data.toList (P.take j ++ [.ch c]) kl ks.symm
        simp only [go_sem,kl,Nat.zero_add,k0',go_sem_proc]
        refine Dr.of TT (by kernel_rfl) [] trivial ?_
        simp only [go_sem,kl,Nat.zero_add,kn,kw2,kl1,kl2,kh,kset,kw,go_sem_proc]
        refine jy.of TT 4000 (zJ (by kernel_rfl)) ?_
        simp only [go_sem,kw,go_sem_proc]
        exact ⟨i + 1 + 1,by omega,by omega,by simp only [go_sem,go_sem_proc]⟩
       ·rw [m1,Bool.true_and] at ks
        simp only [Pc.fits] at ks
        rw [m1] at kn
        have kset:=yC (b:=(c == d)) s.data.toList (P.take j ++ [.ch c]) kl ks.symm
        simp only [go_sem,kl,Nat.zero_add,k0',go_sem_proc]
        refine Dr.of TT (by kernel_rfl) [] trivial ?_
        simp only [go_sem,kl,Nat.zero_add,kn,kw2,kl1,kl2,ksd,kh,kb,kset,kw,go_sem_proc]
        refine jy.of TT 4000 (zJ (by kernel_rfl)) ?_
        simp only [go_sem,kw,go_sem_proc]
        exact ⟨i + 1 + 1,by omega,by omega,by simp only [go_sem,go_sem_proc]⟩
     ·have:k=s.size + 1:=by omega
      subst this
      have hall:=zax s.data.toList (P.take j ++ [.ch c]) (s.size + 1)
      rw [← ht] at hall
      simp only [go_sem,Nat.lt_irrefl,← ht,hall,hw,go_sem_proc]
      refine ⟨j + 1,[2],by omega,by omega,rfl,⟨zq.of_eq rfl,zq.of_eq rfl⟩,rfl⟩
  ·have:j=P.length:=by omega
   subst this
   have hlast:=ZG s.data.toList P (n:=s.size + 1) (i:=s.size) (by omega)
   rw [show s.data.toList.take s.size=s.data.toList from List.take_length] at hlast
   have hsl:(s.size:Int) < ((s.size + 1:Nat):Int):=by omega
   simp only [go_sem,Nat.lt_irrefl,List.length_map,List.take_length,Nat.zero_add,hlast,yr,go_sem_proc]
   exact by omega
end Go.Ev
end
