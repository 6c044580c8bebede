import Derived.Test.YtifdakibkadfiaaGreatDoorMs2
import Derived.Test.YtifdakibkadfiaaGreatDoorMg6
import Derived.Lib.IndexBytes
import Derived.Lib.TrimByte
import Derived.Test.YtifdakibkadfiaaGreatDoorMs3
set_option linter.all false
set_option maxRecDepth 100000
set_option maxHeartbeats 8000000
section
open Go Go.Proofs
namespace Go.Ev
theorem Ky (l:List UInt8) (c:UInt8):(⟨l.toArray⟩:ByteArray) ++ ⟨#[c]⟩=⟨(l ++ [c]).toArray⟩:=by
 apply ByteArray.ext
 apply Array.ext'
 simp
theorem zl9 (p:ByteArray) {j:Nat} {c:UInt8} (hc:p[j]?=some c):p.extract j (j + 1)=⟨#[c]⟩:=by
 have h1:=JJ hc
 apply ByteArray.ext
 apply Array.ext'
 rw [ByteArray.data_extract,Array.toList_extract,List.extract_eq_take_drop,h1,show j + 1 - j=1 by omega]
 rfl
theorem XD {p:ByteArray} {j:Nat} {c:UInt8} (hc:p[j]?=some c):p.data.toList.take (j + 1)=p.data.toList.take j ++ [c]:=by
 rw [vI] at hc
 obtain ⟨h5,h6⟩:=List.getElem?_eq_some_iff.1 hc
 rw [← h6,List.take_append_getElem h5]
theorem ZL (c:UInt8):KI [[.int .u8 (c.toNat:Nat)]]=some [c]:=by
 have:=c.toNat_lt
 simp [KI,zj3]
theorem zbK (s:ByteArray) (f t:Nat) (hf:f + 26 ≤ 255) (ht:t + 26 ≤ 255) (hs:s.size ≤ 1000000000):Good Tryz.prog 168 [cS s,.c (.int .u8 f),.c (.int .u8 t)] [] (cS ⟨(s.data.toList.map (Go.Proofs.YtifdakibkadfiaaGreatDoor.j6 f t)).toArray⟩) []:=by
 have hsz:s.data.toList.length=s.size:=rfl
 refine Good.zg TT 4000 Tryz.func168 rfl rfl ?_
 unfold Tryz.f168
 simp only [go_sem,go_sem_proc]
 refine Lp.at TT 4000 0 (Nat.le_of_ble_eq_true rfl) [false,false,false,false,false,false,false,true,true,true,true,true,true,true,true,true,true,true,true,true,true,true,true,true,true,true,true,true,true,true,true,true,true,true,true,true,true,true] (fun j:Nat=>s.size - j) (fun j=>j ≤ s.size) (fun j=>[(7,cS ⟨((s.data.toList.take j).map (Go.Proofs.YtifdakibkadfiaaGreatDoor.j6 f t)).toArray⟩),(8,cI j)]) (fun _=>[]) (0) (Nat.zero_le _) ?_ ?_
 ·simp only [go_sem,go_sem_proc]
 ·rintro j i1
  rcases Nat.lt_or_ge j s.size with hlt | hge
  ·obtain ⟨c,hc⟩:=JT hlt
   have hw:=zh (j:=j) (by omega)
   have hb:=c.toNat_lt
   have h26:IntKind.wrap .u8 ((f:Int) + 26)=((f + 26:Nat):Int):=by unfold IntKind.wrap;simp [IntKind.bits,IntKind.signed];omega
   have hnx:List.map (Go.Proofs.YtifdakibkadfiaaGreatDoor.j6 f t) (s.data.toList.take (j + 1))=List.map (Go.Proofs.YtifdakibkadfiaaGreatDoor.j6 f t) (s.data.toList.take j) ++ [Go.Proofs.YtifdakibkadfiaaGreatDoor.j6 f t c]:=by rw [XD hc,List.map_append];rfl
   by_cases c1:f ≤ c.toNat ∧ c.toNat < f + 26
   ·obtain ⟨d1,d2⟩:=c1
    have d1':(f:Int) ≤ (c.toNat:Int):=by omega
    have d2':(c.toNat:Int) < ((f + 26:Nat):Int):=by omega
    have hv:IntKind.wrap .u8 (IntKind.wrap .u8 ((c.toNat:Int) - (f:Int)) + (t:Int))=(((Go.Proofs.YtifdakibkadfiaaGreatDoor.j6 f t c).toNat:Nat):Int):=by
     rw [Go.Proofs.YtifdakibkadfiaaGreatDoor.JE d1 d2 (by omega)]
     unfold IntKind.wrap;simp [IntKind.bits,IntKind.signed];omega
    simp only [go_sem,hlt,hc,h26,d1,d2,d1',d2',ge_iff_le,hv,ZL,Ky,hw,Option.map_some,go_sem_proc]
    refine ⟨by rw [List.length_take];omega,j + 1,by omega,by omega,?_,zq.of_eq rfl⟩
    rw [hnx];exact zq.of_eq rfl
   ·have hv:=Go.Proofs.YtifdakibkadfiaaGreatDoor.xG (t:=t) c1
    by_cases d1:(f:Int) ≤ (c.toNat:Int)
    ·have d2:¬ ((c.toNat:Int) < ((f + 26:Nat):Int)):=by omega
     have d1':f ≤ c.toNat:=by omega
     have d2':¬ (c.toNat < f + 26):=by omega
     simp only [go_sem,hlt,hc,h26,d1,d2,d1',d2',ge_iff_le,ZL,Ky,hw,Option.map_some,go_sem_proc]
     rw [hv] at hnx
     refine ⟨by rw [List.length_take];omega,j + 1,by omega,by omega,?_,zq.of_eq rfl⟩
     rw [hnx];exact zq.of_eq rfl
    ·have d1':¬ f ≤ c.toNat:=by omega
     simp only [go_sem,hlt,hc,h26,d1,d1',ge_iff_le,ZL,Ky,hw,Option.map_some,go_sem_proc]
     rw [hv] at hnx
     refine ⟨by rw [List.length_take];omega,j + 1,by omega,by omega,?_,zq.of_eq rfl⟩
     rw [hnx];exact zq.of_eq rfl
  ·have:j=s.size:=by omega
   subst this
   have hk:s.data.toList.take s.size=s.data.toList:=List.take_length
   simp only [go_sem,Nat.lt_irrefl,hk,go_sem_proc]
theorem zju (s t:ByteArray) (hs:s.size ≤ 1000000000) (ht:t.size ≤ 1000000000):Good Tryz.prog 170 [cS s,cS t,cI 0] [] (cI (Lib.indexB s t)) []:=by
 refine Good.zg TT 4000 Tryz.func170 rfl rfl ?_
 unfold Tryz.f170
 simp only [go_sem,go_sem_proc]
 refine Lp.at TT 4000 0 (Nat.le_of_ble_eq_true rfl) [false,false,true,false,false,false,true,true,true,true,true,true,true,true,true,true,true,true,true,true,true,true,true,true,true,true] (fun j:Nat=>s.size + 1 - j) (fun j=>j ≤ s.size ∧ Lib.NoOccB s t j) (fun j=>[(2,cI j)]) (fun _=>[]) (0) (⟨Nat.zero_le _,fun j h=>absurd h (Nat.not_lt_zero _)⟩) ?_ ?_
 ·simp only [go_sem,go_sem_proc]
 ·rintro j ⟨i1,i2⟩
  have hw:IntKind.wrap .i64 ((j:Int) + (t.size:Int))=((j + t.size:Nat):Int):=by rw [qd (by omega) (by omega)];omega
  have hw1:=zh (j:=j) (by omega)
  rcases Nat.lt_or_ge s.size (j + t.size) with hlt | hge
  ·have h1:¬ (((j + t.size:Nat):Int) ≤ (s.size:Int)):=by omega
   simp only [go_sem,hw,h1,go_sem_proc]
   exact Le.of_eq (congrArg cI (Lib.past s t j i2 (by omega) hlt).symm)
  ·have h1:(((j + t.size:Nat):Int) ≤ (s.size:Int)):=by omega
   cases hp:((s.extract j (j + t.size)).toList == t.toList)
   ·have h0:1 ≤ t.size:=by
     rcases Nat.eq_zero_or_pos t.size with h0 | h0
     ·exfalso
      have e1:t.data.toList=[]:=List.eq_nil_of_length_eq_zero h0
      have e2:(s.extract j (j + t.size)).data.toList=[]:=List.eq_nil_of_length_eq_zero (by
       have:(s.extract j (j + t.size)).size=(s.extract j (j + t.size)).data.toList.length:=rfl
       rw [← this,ByteArray.size_extract];omega)
      rw [Go.ByteArray.toList_eq,Go.ByteArray.toList_eq,e1,e2] at hp
      cases hp
     ·exact h0
    have hm:=Lib.miss_piece s t j i2 hge hp
    simp only [go_sem,hw,h1,hp,hw1,go_sem_proc]
    exact ⟨by omega,j + 1,by omega,⟨by omega,hm⟩,zq.of_eq rfl⟩
   ·simp only [go_sem,hw,h1,hp,go_sem_proc]
    exact ⟨by omega,Le.of_eq (congrArg cI (Lib.hit s t j i2 hge hp).symm)⟩
def ptA (f:Int):Nat:=if f < 1 then 0 else (f - 1).toNat
def ptB (f n:Int):Nat:=if f < 1 then (f + n - 1).toNat else n.toNat
def ziT (l:List UInt8) (f n:Int):List UInt8:=(l.drop (ptA f)).take (ptB f n)
theorem zge {l:List UInt8} {A B j:Nat} {c:UInt8} (ht:l.take (j + 1)=l.take j ++ [c]) (hl:(l.take j).length=j) :
  ((l.take (j + 1)).drop A).take B=if A ≤ j ∧ j < A + B then ((l.take j).drop A).take B ++ [c] else ((l.take j).drop A).take B:=by
 rw [ht]
 by_cases h1:A ≤ j
 ·rw [List.drop_append_of_le_length (by omega)]
  by_cases h2:j < A + B
  ·have e1:((l.take j).drop A ++ [c]).take B=(l.take j).drop A ++ [c]:=List.take_of_length_le (by rw [List.length_append,List.length_drop,hl];simp;omega)
   have e2:((l.take j).drop A).take B=(l.take j).drop A:=List.take_of_length_le (by rw [List.length_drop,hl];omega)
   rw [if_pos ⟨h1,h2⟩,e1,e2]
  ·rw [if_neg (by omega),List.take_append_of_le_length (by rw [List.length_drop,hl];omega)]
 ·rw [if_neg (by omega)]
  rw [List.drop_of_length_le (l:=l.take j ++ [c]) (by rw [List.length_append,hl];simp;omega),List.drop_of_length_le (l:=l.take j) (by omega)]
theorem zhV (s:ByteArray) (f n:Int) (hs:s.size ≤ 1000000000) (hf:I64 f) (hn:I64 n) (hn0:0 ≤ n):Good Tryz.prog 169 [cS s,cI f,cI n] [] (cS ⟨(ziT s.data.toList f n).toArray⟩) []:=by
 have hsz:s.data.toList.length=s.size:=rfl
 unfold I64 at hf hn
 refine Good.zg TT 4000 Tryz.func169 rfl rfl ?_
 unfold Tryz.f169
 simp only [go_sem,go_sem_proc]
 refine Lp.at TT 4000 0 (Nat.le_of_ble_eq_true rfl) [false,false,false,false,false,false,false,true,true,true,true,true,true,true,true,true,true,true,true,true,true,true,true,true,true,true,true,true,true,true,true,true,true,true,true,true,true,true,true,true,true,true,true,true,true,true,true,true] (fun j:Nat=>s.size - j) (fun j=>j ≤ s.size) (fun j=>[(7,cS ⟨(((s.data.toList.take j).drop (ptA f)).take (ptB f n)).toArray⟩),(8,cI j)]) (fun _=>[]) (0) (Nat.zero_le _) ?_ ?_
 ·simp only [go_sem,go_sem_proc]
 ·rintro j i1
  rcases Nat.lt_or_ge j s.size with hlt | hge
  ·obtain ⟨c,hc⟩:=JT hlt
   have hw:=zh (j:=j) (by omega)
   have hst:=zge (A:=ptA f) (B:=ptB f n) (XD hc) (by rw [List.length_take];omega)
   have hone:=zl9 s hc
   have hl1:j + 1 ≤ s.size:=by omega
   have hl2:j ≤ j + 1:=by omega
   have hlen:(((s.data.toList.take j).drop (ptA f)).take (ptB f n)).length ≤ 9223372036854775806:=by rw [List.length_take,List.length_drop,List.length_take];omega
   have hw3:IntKind.wrap .i64 (((j + 1:Nat):Int) - n)=((j + 1:Nat):Int) - n:=qd (by omega) (by omega)
   by_cases q1:((j + 1:Nat):Int) < f
   ·have hno:¬ (ptA f ≤ j ∧ j < ptA f + ptB f n):=by unfold ptA ptB;rw [if_neg (by omega),if_neg (by omega)];omega
    rw [if_neg hno] at hst
    simp only [go_sem,hlt,hc,hw,q1,go_sem_proc]
    refine ⟨j + 1,by omega,by omega,?_,zq.of_eq rfl⟩
    rw [hst];exact zq.of_eq rfl
   by_cases q2:f > 0
   ·have hw2:IntKind.wrap .i64 (((j + 1:Nat):Int) - f)=((j + 1:Nat):Int) - f:=qd (by omega) (by omega)
    have q2':¬ (f ≤ 0):=by omega
    by_cases q3:((j + 1:Nat):Int) - f ≥ n
    ·have hno:¬ (ptA f ≤ j ∧ j < ptA f + ptB f n):=by unfold ptA ptB;rw [if_neg (by omega),if_neg (by omega)];omega
     rw [if_neg hno] at hst
     simp only [go_sem,hlt,hc,hw,q1,q2,q2',hw2,q3,go_sem_proc]
     refine ⟨j + 1,by omega,by omega,?_,zq.of_eq rfl⟩
     rw [hst];exact zq.of_eq rfl
    ·have hyes:ptA f ≤ j ∧ j < ptA f + ptB f n:=by unfold ptA ptB;rw [if_neg (by omega),if_neg (by omega)];omega
     rw [if_pos hyes] at hst
     simp only [go_sem,hlt,hc,hw,q1,q2,q2',hw2,q3,hl1,hl2,Option.map_some,hone,Ky,go_sem_proc]
     refine ⟨hlen,j + 1,by omega,by omega,?_,zq.of_eq rfl⟩
     rw [hst];exact zq.of_eq rfl
   ·have q2':f ≤ 0:=by omega
    by_cases q3:((j + 1:Nat):Int) - n ≥ f
    ·have hno:¬ (ptA f ≤ j ∧ j < ptA f + ptB f n):=by unfold ptA ptB;rw [if_pos (by omega),if_pos (by omega)];omega
     rw [if_neg hno] at hst
     simp only [go_sem,hlt,hc,hw,q1,q2,q2',hw3,q3,go_sem_proc]
     refine ⟨j + 1,by omega,by omega,?_,zq.of_eq rfl⟩
     rw [hst];exact zq.of_eq rfl
    ·have hyes:ptA f ≤ j ∧ j < ptA f + ptB f n:=by unfold ptA ptB;rw [if_pos (by omega),if_pos (by omega)];omega
     rw [if_pos hyes] at hst
     simp only [go_sem,hlt,hc,hw,q1,q2,q2',hw3,q3,hl1,hl2,Option.map_some,hone,Ky,go_sem_proc]
     refine ⟨hlen,j + 1,by omega,by omega,?_,zq.of_eq rfl⟩
     rw [hst];exact zq.of_eq rfl
  ·have:j=s.size:=by omega
   subst this
   have hk:s.data.toList.take s.size=s.data.toList:=List.take_length
   simp only [go_sem,Nat.lt_irrefl,hk,go_sem_proc]
   exact Le.refl _
def zb3 (t u:List UInt8) (s:List UInt8):List UInt8:=
 if h:t ≠ [] ∧ 0 ≤ Lib.index s t then s.take (Lib.index s t).toNat ++ u ++ zb3 t u (s.drop ((Lib.index s t).toNat + t.length)) else s
 termination_by s.length
 decreasing_by
  have h1:=Lib.index_room s t h.2
  have h2:0 < t.length:=List.length_pos_iff.2 h.1
  rw [List.length_drop]
  omega
theorem Wb {t u s:List UInt8} (ht:t ≠ []) (h:0 ≤ Lib.index s t):zb3 t u s=s.take (Lib.index s t).toNat ++ u ++ zb3 t u (s.drop ((Lib.index s t).toNat + t.length)):=by rw [zb3,dif_pos ⟨ht,h⟩]
theorem KP {t u s:List UInt8} (h:¬ 0 ≤ Lib.index s t):zb3 t u s=s:=by rw [zb3,dif_neg (fun h2=>h h2.2)]
theorem zjz (t u:List UInt8) (ht:t ≠ []):∀ (k:Nat) (s:List UInt8),k=Lib.count s t → Lib.replaceK t u k s=zb3 t u s
 | 0,s,hk=>by
  rw [KP]
  ·rfl
  ·intro h
   have:=Lib.count_hit (s:=s) (i:=(Lib.index s t).toNat) ht (by omega)
   omega
 | k + 1,s,hk=>by
  obtain ⟨i,hi⟩:=Lib.index_of_count (s:=s) (old:=t) (by omega)
  have hc:=Lib.count_hit ht hi
  rw [Lib.replaceK_hit t u k s i hi,Wb ht (by omega),hi,show ((i:Int)).toNat=i from rfl,zjz t u ht k _ (by omega)]
theorem Xg (t:List UInt8) (ht:t ≠ []) (s:List UInt8):zb3 t t s=s:=by
 by_cases h:0 ≤ Lib.index s t
 ·have h1:=Lib.index_room s t h
  have h2:0 < t.length:=List.length_pos_iff.2 ht
  rw [Wb ht h,Xg t ht (s.drop ((Lib.index s t).toNat + t.length))]
  rcases Lib.index_spec s t with ⟨h3,_⟩ | ⟨i,h3,h4,h5,_⟩
  ·omega
  ·have hi:(Lib.index s t).toNat=i:=by omega
   rw [hi]
   rw [Lib.occAt_iff_take s t i (by omega),beq_iff_eq] at h5
   conv=>lhs;rw [List.append_assoc];arg 2;arg 1;rw [← h5]
   rw [← List.drop_drop,List.take_append_drop,List.take_append_drop]
 ·exact KP h
 termination_by s.length
 decreasing_by
  rw [List.length_drop];omega
theorem yh (s t u:List UInt8) (ht:t ≠ []):Lib.replaceAll s t u=zb3 t u s:=by
 unfold Lib.replaceAll Lib.replace
 split
 ·rename_i h
  rw [← eq_of_beq h,Xg t ht]
 ·have:Lib.replaceNum s t (-1)=Lib.count s t:=by unfold Lib.replaceNum;rw [if_pos (.inl (by omega))]
  rw [this]
  exact zjz t u ht _ s rfl
def zjv (s t u:ByteArray):ByteArray × Int:=if t.data.toList=[] then (s,0) else if (zb3 t.data.toList u.data.toList s.data.toList).length > 100000 then (⟨#[]⟩,30) else (⟨(zb3 t.data.toList u.data.toList s.data.toList).toArray⟩,0)
theorem zhF {c i T M U o:Nat} (hM:M=U + 1) (hT:1 ≤ T) (ho:o ≤ c * M):o + (i + U) ≤ (c + (i + T)) * M:=by
 rw [Nat.add_mul,Nat.add_mul]
 have h1:i ≤ i * M:=by
  subst hM;exact Nat.le_mul_of_pos_right i (by omega)
 have h2:M ≤ T * M:=Nat.le_mul_of_pos_left M hT
 omega
theorem YV (s t u:ByteArray) (hs:s.size ≤ 10000000) (ht:t.size ≤ 10000000) (hu:u.size ≤ 10000000):Good Tryz.prog 171 [cS s,cS t,cS u] [] (.tup [cS (zjv s t u).1,cI (zjv s t u).2]) []:=by
 have hts:t.data.toList.length=t.size:=rfl
 refine Good.zg TT 4000 Tryz.func171 rfl rfl ?_
 unfold Tryz.f171
 unfold zjv
 by_cases h0:t.data.toList=[]
 ·have h0':(t.size == 0)=true:=by rw [← hts,h0];rfl
  simp only [go_sem,h0',h0,go_sem_proc]
 have h0':(t.size == 0)=false:=beq_eq_false_iff_ne.2 fun h=>h0 (List.eq_nil_of_length_eq_zero h)
 have hT:1 ≤ t.size:=by have:=beq_eq_false_iff_ne.1 h0';omega
 rw [if_neg h0]
 simp only [go_sem,h0',go_sem_proc]
 refine Lp.at TT 4000 0 (Nat.le_of_ble_eq_true rfl) [true,false,false,false,false,false,false,false,true,true,false,false,false,true,true,true,true,true,true,true,true,true,true,true,true,true,true,true,true,true,true] (fun a:List UInt8 × List UInt8=>a.2.length) (fun a=>a.1 ++ zb3 t.data.toList u.data.toList a.2=zb3 t.data.toList u.data.toList s.data.toList ∧ a.2.length ≤ s.size ∧ a.1.length ≤ (s.size - a.2.length) * (u.size + 1)) (fun a=>[(0,cS ⟨a.2.toArray⟩),(8,cS ⟨a.1.toArray⟩)]) (fun _=>[]) (([],s.data.toList)) (⟨rfl,Nat.le_refl _,Nat.zero_le _⟩) ?_ ?_
 ·simp only [go_sem,go_sem_proc]
 ·rintro ⟨o,r⟩ ⟨i1,i2,i3⟩
  simp only at i1 i2 i3
  have hA:=zju ⟨r.toArray⟩ t (by simp [ByteArray.size];omega) (by omega)
  have hix:Lib.indexB ⟨r.toArray⟩ t=Lib.index r t.data.toList:=rfl
  rw [hix] at hA
  have hcap:(s.size - r.length) * (u.size + 1) ≤ 10000000 * 10000001:=Nat.mul_le_mul (by omega) (by omega)
  have hcat:∀ x y:List UInt8,(⟨x.toArray⟩:ByteArray) ++ ⟨y.toArray⟩=⟨(x ++ y).toArray⟩:=fun x y=>by
   apply ByteArray.ext;apply Array.ext';simp
  by_cases hneg:Lib.index r t.data.toList < 0
  ·rw [KP (by omega)] at i1
   rw [← i1]
   by_cases hbig:(o ++ r).length > 100000
   ·have hb:((((o ++ r).length:Nat):Int) > 100000):=by omega
    rw [if_pos hbig]
    simp only [go_sem,go_sem_proc]
    refine Cl.pure TT 4000 hA rfl rfl ?_
    simp only [go_sem,hneg,hcat,hb,go_sem_proc]
    omega
   ·have hb:¬ ((((o ++ r).length:Nat):Int) > 100000):=by omega
    rw [if_neg hbig]
    simp only [go_sem,go_sem_proc]
    refine Cl.pure TT 4000 hA rfl rfl ?_
    simp only [go_sem,hneg,hcat,hb,go_sem_proc]
    omega
  ·obtain ⟨i,hi⟩:∃ i:Nat,Lib.index r t.data.toList=i:=⟨(Lib.index r t.data.toList).toNat,by omega⟩
   have hroom:=Lib.index_room r t.data.toList (by omega)
   rw [Wb h0 (by omega),hi,show ((i:Int)).toNat=i from rfl] at i1
   rw [hi] at hA hneg
   have x1:(⟨r.toArray⟩:ByteArray).extract 0 i=⟨(r.take i).toArray⟩:=Lib.extract_upto ⟨r.toArray⟩ i
   have x2:(⟨r.toArray⟩:ByteArray).extract (i + t.size) r.length=⟨(r.drop (i + t.size)).toArray⟩:=by
    have:=Lib.extract_from ⟨r.toArray⟩ (i + t.size)
    rw [Lib.size_mk] at this;exact this
   have y1:(i:Int) ≤ (r.length:Int):=by omega
   have y0:(0:Int) ≤ (i:Int):=by omega
   have y2:IntKind.wrap .i64 ((i:Int) + (t.size:Int))=((i + t.size:Nat):Int):=by rw [qd (by omega) (by omega)];omega
   have y3:i + t.size ≤ r.length:=by omega
   have hu2:u=⟨u.data.toList.toArray⟩:=rfl
   simp only [go_sem,go_sem_proc]
   refine Cl.pure TT 4000 hA rfl rfl ?_
   simp only [go_sem,hneg,y0,y1,and_self,Int.toNat_natCast,x1,Option.map_some,y2,y3,x2,go_sem_proc]
   have hl1:(List.take i r).length=i:=by rw [List.length_take];omega
   have hl2:(List.drop (i + t.size) r).length=r.length - (i + t.size):=List.length_drop
   rw [hl1]
   refine ⟨by omega,by omega,(o ++ (r.take i ++ u.data.toList),r.drop (i + t.size)),by simp only [hl2];omega,⟨?_,by simp only [hl2];omega,?_⟩,zq.of_eq rfl,?_⟩
   ·simp only
    rw [← i1,hts,List.append_assoc,List.append_assoc]
   ·simp only [hl2,List.length_append,hl1]
    have hus:u.data.toList.length=u.size:=rfl
    have hg:=zhF (c:=s.size - r.length) (i:=i) (T:=t.size) (M:=u.size + 1) (U:=u.size) (o:=o.length) rfl hT i3
    rw [hus,show s.size - (r.length - (i + t.size))=s.size - r.length + (i + t.size) by omega]
    exact hg
   ·simp only
    have e:(⟨o.toArray⟩:ByteArray) ++ (⟨(r.take i).toArray⟩ ++ u)=⟨(o ++ (r.take i ++ u.data.toList)).toArray⟩:=by
     apply ByteArray.ext;apply Array.ext';simp
    rw [e]
    exact zq.of_eq rfl
end Go.Ev
end
section
open Go Go.Proofs Go.RowKit
namespace Go.Ev
open Go.Proofs.YtifdakibkadfiaaGreatDoor (GV zx VS zY kD)
theorem vE (s:ByteArray):Good Tryz.prog 167 [cS s] [] (Val.mk 3 0 s).av []:=by
 refine Good.zg TT 4000 Tryz.func167 rfl rfl ?_
 unfold Tryz.f167
 simp only [go_sem,go_sem_proc]
abbrev vo:ByteArray:=⟨#[97,98,115]⟩
abbrev qM:ByteArray:=⟨#[115,105,103,110]⟩
abbrev zR:ByteArray:=⟨#[108,101,110,103,116,104]⟩
abbrev ko:ByteArray:=⟨#[108,111,119,101,114]⟩
abbrev ku:ByteArray:=⟨#[117,112,112,101,114]⟩
abbrev vF:ByteArray:=⟨#[116,114,105,109]⟩
abbrev zI:ByteArray:=⟨#[115,117,98,115,116,114]⟩
abbrev kf:ByteArray:=⟨#[105,110,115,116,114]⟩
abbrev qA:ByteArray:=⟨#[114,101,112,108,97,99,101]⟩
theorem zhT (x:Val) (hx:I64 x.i):Good Tryz.prog 114 [cS vo,.c (qk [x])] [] (qY (unG (Go.Proofs.YtifdakibkadfiaaGreatDoor.Yj (toG x))).1 (unG (Go.Proofs.YtifdakibkadfiaaGreatDoor.Yj (toG x))).2) []:=by
 have gl:(0:Int) < ((1:Nat):Int):=by decide
 have f0:(vo.toList == vo.toList)=true:=beq_self_eq_true _
 have hN:=zf0 x hx
 by_cases h:x.i < 0
 ·have e:unG (Go.Proofs.YtifdakibkadfiaaGreatDoor.Yj (toG x))=zed x:=by
   unfold Go.Proofs.YtifdakibkadfiaaGreatDoor.Yj;rw [if_pos (show (toG x).i < 0 from h)];rfl
  rw [e]
  refine Good.zg TT 4000 Tryz.func114 rfl rfl ?_
  unfold Tryz.f114
  have h':¬ (x.i ≥ 0):=by omega
  simp only [go_sem,gl,f0,h',go_sem_proc]
  refine Cl.pure TT 4000 hN rfl rfl ?_
  simp only [go_sem,go_sem_proc]
  exact Le.refl _
 ·have e:unG (Go.Proofs.YtifdakibkadfiaaGreatDoor.Yj (toG x))=(x,0):=by
   unfold Go.Proofs.YtifdakibkadfiaaGreatDoor.Yj;rw [if_neg (show ¬ (toG x).i < 0 from h)];rfl
  rw [e]
  refine Good.zg TT 4000 Tryz.func114 rfl rfl ?_
  unfold Tryz.f114
  have h':(x.i ≥ 0):=by omega
  simp only [go_sem,gl,f0,h',go_sem_proc]
  exact Le.refl _
theorem zbh {f:FuncId} {a b:Int} {r:AV} {l:List Entry} (h:a ≠ b):pick ((f,[cI a],r) :: l) f [cI b]=pick l f [cI b]:=by
 have:¬ (f=f ∧ [cI b]=[cI a]):=fun h2=>h (by have:=h2.2;simp at this;exact this.symm)
 simp only [pick,if_neg this]
theorem zi0 (x:Val) (hk:x.k=2) (hs:x.s.size=0):x.cmp ⟨2,0,⟨#[]⟩⟩=if x.i < 0 then -1 else if x.i > 0 then 1 else 0:=by
 have e:(x.s.toList == (⟨#[]⟩:ByteArray).toList)=true:=by rw [WR,hs];rfl
 have e2:x.s.toList=(⟨#[]⟩:ByteArray).toList:=eq_of_beq e
 have e3:Op.bytesLess (⟨#[]⟩:ByteArray).toList (⟨#[]⟩:ByteArray).toList=false:=by rw [Go.ByteArray.toList_eq];rfl
 unfold Val.cmp Val.lt Val.same
 simp only [hk,e2,e3,Int.lt_irrefl,decide_false,Bool.false_or,beq_self_eq_true,Bool.true_and,Bool.and_false,Bool.or_false,Bool.and_true]
 by_cases h1:x.i < 0
 ·simp [h1]
 ·by_cases h2:x.i=0
  ·simp [h2]
  ·have:x.i > 0:=by omega
   simp [h1,h2,this]
theorem zfv (x:Val) (hk:x.k=2) (hs:x.s.size=0):Good Tryz.prog 114 [cS qM,.c (qk [x])] [] (qY (unG (Go.Proofs.YtifdakibkadfiaaGreatDoor.Vj (toG x))).1 (unG (Go.Proofs.YtifdakibkadfiaaGreatDoor.Vj (toG x))).2) []:=by
 have gl:(0:Int) < ((1:Nat):Int):=by decide
 have f0:(qM.toList == vo.toList)=false:=(zF [115,105,103,110] [97,98,115]).trans rfl
 have f1:(qM.toList == qM.toList)=true:=beq_self_eq_true _
 have hc:=yE x ⟨2,0,⟨#[]⟩⟩
 rw [zi0 x hk hs] at hc
 have e:unG (Go.Proofs.YtifdakibkadfiaaGreatDoor.Vj (toG x))=(⟨2,if x.i < 0 then -1 else if x.i > 0 then 1 else 0,⟨#[]⟩⟩,0):=rfl
 rw [e]
 by_cases h1:x.i < 0
 ·rw [if_pos h1] at hc ⊢
  refine Good.zg TT 4000 Tryz.func114 rfl rfl ?_
  unfold Tryz.f114
  simp only [go_sem,gl,f0,f1,go_sem_proc]
  refine Dr.ofC TT (by kernel_rfl) [(36,[cI 0],(Val.mk 2 0 ⟨#[]⟩).av),(69,[x.av,(Val.mk 2 0 ⟨#[]⟩).av],cI (-1)),(36,[cI (-1)],(Val.mk 2 (-1) ⟨#[]⟩).av)] ⟨⟨qU 0,rfl⟩,⟨hc,rfl⟩,⟨qU (-1),rfl⟩,trivial⟩ ?_
  simp only [go_sem,zbh (show (0:Int) ≠ -1 by decide),KE,go_sem_proc]
  refine jy.of TT 4000 (zJ (by kernel_rfl)) ?_
  simp only [go_sem,go_sem_proc]
  exact Le.refl _
 ·rw [if_neg h1] at hc ⊢
  by_cases h2:x.i > 0
  ·rw [if_pos h2] at hc ⊢
   refine Good.zg TT 4000 Tryz.func114 rfl rfl ?_
   unfold Tryz.f114
   simp only [go_sem,gl,f0,f1,go_sem_proc]
   refine Dr.ofC TT (by kernel_rfl) [(36,[cI 0],(Val.mk 2 0 ⟨#[]⟩).av),(69,[x.av,(Val.mk 2 0 ⟨#[]⟩).av],cI (1)),(36,[cI (1)],(Val.mk 2 (1) ⟨#[]⟩).av)] ⟨⟨qU 0,rfl⟩,⟨hc,rfl⟩,⟨qU (1),rfl⟩,trivial⟩ ?_
   simp only [go_sem,zbh (show (0:Int) ≠ 1 by decide),KE,go_sem_proc]
   refine jy.of TT 4000 (zJ (by kernel_rfl)) ?_
   simp only [go_sem,go_sem_proc]
   exact Le.refl _
  ·rw [if_neg h2] at hc ⊢
   refine Good.zg TT 4000 Tryz.func114 rfl rfl ?_
   unfold Tryz.f114
   simp only [go_sem,gl,f0,f1,go_sem_proc]
   refine Dr.ofC TT (by kernel_rfl) [(36,[cI 0],(Val.mk 2 0 ⟨#[]⟩).av),(69,[x.av,(Val.mk 2 0 ⟨#[]⟩).av],cI (0))] ⟨⟨qU 0,rfl⟩,⟨hc,rfl⟩,trivial⟩ ?_
   simp only [go_sem,go_sem_proc]
   refine jy.of TT 4000 (zJ (by kernel_rfl)) ?_
   simp only [go_sem,go_sem_proc]
   exact Le.refl _
theorem QZ (x:Val) :Good Tryz.prog 114 [cS zR,.c (qk [x])] [] (qY (unG (Go.Proofs.YtifdakibkadfiaaGreatDoor.vK (toG x))).1 (unG (Go.Proofs.YtifdakibkadfiaaGreatDoor.vK (toG x))).2) []:=by
 have gl:(0:Int) < ((1:Nat):Int):=by decide
 have f0:(zR.toList == vo.toList)=false:=(zF [108,101,110,103,116,104] [97,98,115]).trans rfl
 have f1:(zR.toList == qM.toList)=false:=(zF [108,101,110,103,116,104] [115,105,103,110]).trans rfl
 have f2:(zR.toList == zR.toList)=true:=beq_self_eq_true _
 refine Good.zg TT 4000 Tryz.func114 rfl rfl ?_
 unfold Tryz.f114
 simp only [go_sem,gl,f0,f1,f2,go_sem_proc]
 refine Cl.pure TT 4000 (qU _) rfl rfl ?_
 simp only [go_sem,go_sem_proc]
 exact Le.refl _
theorem zch (x:Val) (hs:x.s.size ≤ 1000000000):Good Tryz.prog 114 [cS ko,.c (qk [x])] [] (qY (unG (Go.Proofs.YtifdakibkadfiaaGreatDoor.V0 (toG x))).1 (unG (Go.Proofs.YtifdakibkadfiaaGreatDoor.V0 (toG x))).2) []:=by
 have gl:(0:Int) < ((1:Nat):Int):=by decide
 have f0:(ko.toList == vo.toList)=false:=(zF [108,111,119,101,114] [97,98,115]).trans rfl
 have f1:(ko.toList == qM.toList)=false:=(zF [108,111,119,101,114] [115,105,103,110]).trans rfl
 have f2:(ko.toList == zR.toList)=false:=(zF [108,111,119,101,114] [108,101,110,103,116,104]).trans rfl
 have f3:(ko.toList == ko.toList)=true:=beq_self_eq_true _
 refine Good.zg TT 4000 Tryz.func114 rfl rfl ?_
 unfold Tryz.f114
 simp only [go_sem,gl,f0,f1,f2,f3,go_sem_proc]
 refine Cl.pure TT 4000 (zbK x.s 65 97 (by omega) (by omega) hs) rfl rfl ?_
 simp only [go_sem,go_sem_proc]
 refine Cl.pure TT 4000 (vE _) rfl rfl ?_
 simp only [go_sem,go_sem_proc]
 exact Le.refl _
theorem zc2 (x:Val) (hs:x.s.size ≤ 1000000000):Good Tryz.prog 114 [cS ku,.c (qk [x])] [] (qY (unG (Go.Proofs.YtifdakibkadfiaaGreatDoor.V3 (toG x))).1 (unG (Go.Proofs.YtifdakibkadfiaaGreatDoor.V3 (toG x))).2) []:=by
 have gl:(0:Int) < ((1:Nat):Int):=by decide
 have f0:(ku.toList == vo.toList)=false:=(zF [117,112,112,101,114] [97,98,115]).trans rfl
 have f1:(ku.toList == qM.toList)=false:=(zF [117,112,112,101,114] [115,105,103,110]).trans rfl
 have f2:(ku.toList == zR.toList)=false:=(zF [117,112,112,101,114] [108,101,110,103,116,104]).trans rfl
 have f3:(ku.toList == ko.toList)=false:=(zF [117,112,112,101,114] [108,111,119,101,114]).trans rfl
 have f4:(ku.toList == ku.toList)=true:=beq_self_eq_true _
 refine Good.zg TT 4000 Tryz.func114 rfl rfl ?_
 unfold Tryz.f114
 simp only [go_sem,gl,f0,f1,f2,f3,f4,go_sem_proc]
 refine Cl.pure TT 4000 (zbK x.s 97 65 (by omega) (by omega) hs) rfl rfl ?_
 simp only [go_sem,go_sem_proc]
 refine Cl.pure TT 4000 (vE _) rfl rfl ?_
 simp only [go_sem,go_sem_proc]
 exact Le.refl _
theorem zbW {p:UInt8 → Bool}:∀ {l:List UInt8},l.dropWhile p=[] ↔ ∀ x,x ∈ l → p x=true
 | []=>by simp
 | a :: l=>by
  rw [List.dropWhile_cons]
  cases h:p a
  ·simp [h]
  ·simp only [if_true,List.mem_cons,forall_eq_or_imp,h,true_and];exact zbW
def x5 (c:UInt8) (l:List UInt8):List UInt8:=(l.reverse.dropWhile (· == c)).reverse
theorem Jh (c x:UInt8) (l:List UInt8):x5 c (x :: l)=if (l.all (· == c))=true then (if x=c then [] else [x]) else x :: x5 c l:=by
 unfold x5
 rw [List.reverse_cons,List.dropWhile_append]
 by_cases h:(l.all (· == c))=true
 ·have:l.reverse.dropWhile (· == c)=[]:=by
   rw [zbW]
   intro y hy
   exact List.all_eq_true.1 h y (List.mem_reverse.1 hy)
  rw [this,if_pos h]
  simp only [List.isEmpty_nil,if_true]
  by_cases hx:x=c
  ·simp [hx]
  ·rw [if_neg hx]
   have:(x == c)=false:=beq_eq_false_iff_ne.2 hx
   simp [List.dropWhile_cons,this]
 ·have:(l.reverse.dropWhile (· == c)) ≠ []:=by
   intro h2
   apply h
   rw [zbW] at h2
   rw [List.all_eq_true]
   intro y hy
   exact h2 y (List.mem_reverse.2 hy)
  rw [if_neg (by simpa using this),if_neg h,List.reverse_append];rfl
theorem zeG {c:UInt8} {l:List UInt8} (h:(l.all (· == c))=true):l.dropWhile (· == c)=[]:=by
 rw [zbW];exact List.all_eq_true.1 h
theorem Wu (c:UInt8):∀ l:List UInt8,x5 c (l.dropWhile (· == c))=(x5 c l).dropWhile (· == c)
 | []=>rfl
 | x :: l=>by
  rw [Jh]
  by_cases hx:x=c
  ·have hx':(x == c)=true:=by simp [hx]
   rw [List.dropWhile_cons,hx',if_pos rfl]
   by_cases h:(l.all (· == c))=true
   ·rw [if_pos h,if_pos hx,zeG h];rfl
   ·rw [if_neg h,List.dropWhile_cons,hx',if_pos rfl];exact Wu c l
  ·have hx':(x == c)=false:=by simp [hx]
   rw [List.dropWhile_cons,hx',if_neg (by simp),Jh]
   by_cases h:(l.all (· == c))=true
   ·rw [if_pos h,if_neg hx,List.dropWhile_cons,hx',if_neg (by simp)]
   ·rw [if_neg h,List.dropWhile_cons,hx',if_neg (by simp)]
theorem vY (c x:UInt8) (l:List UInt8):x5 c (l ++ [x])=if x=c then x5 c l else l ++ [x]:=by
 unfold x5
 rw [List.reverse_append]
 show (List.dropWhile (· == c) (x :: l.reverse)).reverse=_
 rw [List.dropWhile_cons]
 by_cases hx:x=c
 ·rw [if_pos (by simp [hx]),if_pos hx]
 ·rw [if_neg (by simp [hx]),if_neg hx,List.reverse_cons,List.reverse_reverse]
theorem QH (x:Val) (q r:List UInt8) (h1:x.s.data.toList.dropWhile (· == 32)=r) (h2:x5 32 r=x5 32 q) (h3:x5 32 q=q):unG (Go.Proofs.YtifdakibkadfiaaGreatDoor.QV (toG x))=(⟨3,0,⟨q.toArray⟩⟩,0):=by
 have e:Lib.trimB x.s.data.toList 32=q:=by
  show (x5 32 x.s.data.toList).dropWhile (· == 32)=q
  rw [← Wu,h1,h2,h3]
 show ((⟨3,0,⟨(Lib.trimB x.s.data.toList 32).toArray⟩⟩:Val),(0:Int))=_
 rw [e]
theorem zft (x:Val) (hs:x.s.size ≤ 1000000000):Good Tryz.prog 114 [cS vF,.c (qk [x])] [] (qY (unG (Go.Proofs.YtifdakibkadfiaaGreatDoor.QV (toG x))).1 (unG (Go.Proofs.YtifdakibkadfiaaGreatDoor.QV (toG x))).2) []:=by
 have gl:(0:Int) < ((1:Nat):Int):=by decide
 have f0:(vF.toList == vo.toList)=false:=(zF [116,114,105,109] [97,98,115]).trans rfl
 have f1:(vF.toList == qM.toList)=false:=(zF [116,114,105,109] [115,105,103,110]).trans rfl
 have f2:(vF.toList == zR.toList)=false:=(zF [116,114,105,109] [108,101,110,103,116,104]).trans rfl
 have f3:(vF.toList == ko.toList)=false:=(zF [116,114,105,109] [108,111,119,101,114]).trans rfl
 have f4:(vF.toList == ku.toList)=false:=(zF [116,114,105,109] [117,112,112,101,114]).trans rfl
 have f5:(vF.toList == vF.toList)=true:=beq_self_eq_true _
 refine Good.zg TT 4000 Tryz.func114 rfl rfl ?_
 unfold Tryz.f114
 simp only [go_sem,gl,f0,f1,f2,f3,f4,f5,go_sem_proc]
 refine Lp.at TT 4000 2 (Nat.le_of_ble_eq_true rfl) [false,false,false,false,false,false,false,true,false,false,false,false,false,false,false,false,false,false,false,false,false,false,false,false,false,false,false,false,false,false,false,false,false,false,false,false,false,false,false,false,false,false,false,false,false,false,false,false,false,false,false,false,true,true,true,true,true,true,true,true,true,true] (fun r:List UInt8=>r.length) (fun r=>r.length ≤ x.s.size ∧ r.dropWhile (· == 32)=x.s.data.toList.dropWhile (· == 32)) (fun r=>[(7,cS ⟨r.toArray⟩)]) (fun _=>[]) (x.s.data.toList) (⟨Nat.le_refl _,rfl⟩) ?_ ?_
 ·simp only [go_sem,go_sem_proc]
 ·rintro r ⟨i1,i2⟩
  cases r with
  | cons c r =>
   simp only [List.length_cons] at i1
   have hg:(⟨(c :: r).toArray⟩:ByteArray)[0]?=some c:=by rw [vI];rfl
   have hl:((r.length + 1:Nat):Int) > 0:=by omega
   have h1:1 ≤ r.length + 1:=by omega
   by_cases hc:c=32
   ·have hb:(((c.toNat:Nat):Int) == 32)=true:=by rw [hc];rfl
    have hx:(⟨(c :: r).toArray⟩:ByteArray).extract 1 (r.length + 1)=⟨r.toArray⟩:=by
     have:=Lib.extract_from ⟨(c :: r).toArray⟩ 1
     rw [Lib.size_mk] at this;exact this
    simp only [go_sem,hl,hg,hb,hx,h1,Option.map_some,go_sem_proc]
    exact ⟨by omega,r,by omega,⟨by omega,by rw [← i2,List.dropWhile_cons,if_pos (by simp [hc])]⟩,zq.of_eq rfl⟩
   ·have hb:(((c.toNat:Nat):Int) == 32)=false:=by
     rw [beq_eq_false_iff_ne];intro h;apply hc;apply UInt8.toNat_inj.1
     show c.toNat=32;omega
    have i3:x.s.data.toList.dropWhile (· == 32)=c :: r:=by rw [← i2,List.dropWhile_cons,if_neg (by simp [hc])]
    simp only [go_sem,hl,hg,hb,go_sem_proc]
    refine Lp.at TT 4000 2 (Nat.le_of_ble_eq_true rfl) [false,false,false,false,false,false,false,true,false,false,false,false,false,false,false,false,false,false,false,false,false,false,false,false,false,false,false,false,false,false,false,false,false,false,false,false,false,false,false,false,false,false,false,false,false,false,false,false,false,false,false,false,false,false,false,false,false,false,false,false,false,false,true,true,true,true,true,true,true,true,true,true,true,true,true,true,true,true] (fun q:List UInt8=>q.length) (fun q=>q.length ≤ x.s.size ∧ x5 32 q=x5 32 (c :: r)) (fun q=>[(7,cS ⟨q.toArray⟩)]) (fun _=>[]) ((c :: r)) (⟨by simp;try omega,rfl⟩) ?_ ?_
    ·simp only [go_sem,go_sem_proc]
    ·rintro q ⟨j1,j2⟩
     rcases List.eq_nil_or_concat q with rfl | ⟨q,d,rfl⟩
     ·simp only [go_sem,go_sem_proc]
      refine Cl.pure TT 4000 (vE _) rfl rfl ?_
      have e:unG (Go.Proofs.YtifdakibkadfiaaGreatDoor.QV (toG x))=(⟨3,0,⟨([]:List UInt8).toArray⟩⟩,0):=QH x [] (c :: r) i3 j2.symm rfl
      rw [e]
      simp only [go_sem,go_sem_proc]
      exact Le.refl _
     ·simp only [List.concat_eq_append,List.length_append,List.length_cons,List.length_nil,Nat.zero_add] at j1 j2 ⊢
      have qg:(⟨(q ++ [d]).toArray⟩:ByteArray)[q.length]?=some d:=by rw [vI];simp
      have ql:((q.length + 1:Nat):Int) > 0:=by omega
      have qw:IntKind.wrap .i64 (((q.length + 1:Nat):Int) - 1)=((q.length:Nat):Int):=by rw [qd (by omega) (by omega)];omega
      have qx:(⟨(q ++ [d]).toArray⟩:ByteArray).extract 0 q.length=⟨q.toArray⟩:=by
       have:=Lib.extract_upto ⟨(q ++ [d]).toArray⟩ q.length
       rw [this];simp
      have q1:q.length < q.length + 1:=by omega
      have q2:((q.length:Nat):Int) ≤ ((q.length + 1:Nat):Int):=by omega
      have q3:q.length ≤ q.length + 1:=by omega
      rw [vY] at j2
      by_cases hd:d=32
      ·have hb:(((d.toNat:Nat):Int) == 32)=true:=by rw [hd];rfl
       rw [if_pos hd] at j2
       simp only [go_sem,ql,qw,qg,hb,qx,q1,q2,q3,List.length_append,List.length_cons,List.length_nil,Nat.zero_add,Option.map_some,go_sem_proc]
       exact ⟨q,q1,⟨by omega,j2⟩,zq.of_eq rfl⟩
      ·have hb:(((d.toNat:Nat):Int) == 32)=false:=by
        rw [beq_eq_false_iff_ne];intro h;apply hd;apply UInt8.toNat_inj.1
        show d.toNat=32;omega
       rw [if_neg hd] at j2
       have e:unG (Go.Proofs.YtifdakibkadfiaaGreatDoor.QV (toG x))=(⟨3,0,⟨(q ++ [d]).toArray⟩⟩,0):=QH x (q ++ [d]) (c :: r) i3 (by rw [← j2,vY,if_neg hd]) (by rw [vY,if_neg hd])
       rw [e]
       simp only [go_sem,ql,qw,qg,hb,q1,List.length_append,List.length_cons,List.length_nil,Nat.zero_add,go_sem_proc]
       refine Cl.pure TT 4000 (vE _) rfl rfl ?_
       simp only [go_sem,go_sem_proc]
       exact Le.refl _
  | nil =>
   have i3:x.s.data.toList.dropWhile (· == 32)=[]:=by rw [← i2];rfl
   simp only [go_sem,go_sem_proc]
   refine Lp.at TT 4000 2 (Nat.le_of_ble_eq_true rfl) [false,false,false,false,false,false,false,true,false,false,false,false,false,false,false,false,false,false,false,false,false,false,false,false,false,false,false,false,false,false,false,false,false,false,false,false,false,false,false,false,false,false,false,false,false,false,false,false,false,false,false,false,false,false,false,false,false,false,false,false,false,false,true,true,true,true,true,true,true,true,true,true,true,true,true,true,true,true] (fun q:List UInt8=>q.length) (fun q=>q.length ≤ x.s.size ∧ x5 32 q=x5 32 ([])) (fun q=>[(7,cS ⟨q.toArray⟩)]) (fun _=>[]) (([])) (⟨by simp;try omega,rfl⟩) ?_ ?_
   ·simp only [go_sem,go_sem_proc]
   ·rintro q ⟨j1,j2⟩
    rcases List.eq_nil_or_concat q with rfl | ⟨q,d,rfl⟩
    ·simp only [go_sem,go_sem_proc]
     refine Cl.pure TT 4000 (vE _) rfl rfl ?_
     have e:unG (Go.Proofs.YtifdakibkadfiaaGreatDoor.QV (toG x))=(⟨3,0,⟨([]:List UInt8).toArray⟩⟩,0):=QH x [] ([]) i3 j2.symm rfl
     rw [e]
     simp only [go_sem,go_sem_proc]
     exact Le.refl _
    ·simp only [List.concat_eq_append,List.length_append,List.length_cons,List.length_nil,Nat.zero_add] at j1 j2 ⊢
     have qg:(⟨(q ++ [d]).toArray⟩:ByteArray)[q.length]?=some d:=by rw [vI];simp
     have ql:((q.length + 1:Nat):Int) > 0:=by omega
     have qw:IntKind.wrap .i64 (((q.length + 1:Nat):Int) - 1)=((q.length:Nat):Int):=by rw [qd (by omega) (by omega)];omega
     have qx:(⟨(q ++ [d]).toArray⟩:ByteArray).extract 0 q.length=⟨q.toArray⟩:=by
      have:=Lib.extract_upto ⟨(q ++ [d]).toArray⟩ q.length
      rw [this];simp
     have q1:q.length < q.length + 1:=by omega
     have q2:((q.length:Nat):Int) ≤ ((q.length + 1:Nat):Int):=by omega
     have q3:q.length ≤ q.length + 1:=by omega
     rw [vY] at j2
     by_cases hd:d=32
     ·have hb:(((d.toNat:Nat):Int) == 32)=true:=by rw [hd];rfl
      rw [if_pos hd] at j2
      simp only [go_sem,ql,qw,qg,hb,qx,q1,q2,q3,List.length_append,List.length_cons,List.length_nil,Nat.zero_add,Option.map_some,go_sem_proc]
      exact ⟨q,q1,⟨by omega,j2⟩,zq.of_eq rfl⟩
     ·have hb:(((d.toNat:Nat):Int) == 32)=false:=by
       rw [beq_eq_false_iff_ne];intro h;apply hd;apply UInt8.toNat_inj.1
       show d.toNat=32;omega
      rw [if_neg hd] at j2
      have e:unG (Go.Proofs.YtifdakibkadfiaaGreatDoor.QV (toG x))=(⟨3,0,⟨(q ++ [d]).toArray⟩⟩,0):=QH x (q ++ [d]) ([]) i3 (by rw [← j2,vY,if_neg hd]) (by rw [vY,if_neg hd])
      rw [e]
      simp only [go_sem,ql,qw,qg,hb,q1,List.length_append,List.length_cons,List.length_nil,Nat.zero_add,go_sem_proc]
      refine Cl.pure TT 4000 (vE _) rfl rfl ?_
      simp only [go_sem,go_sem_proc]
      exact Le.refl _
theorem zbo (s:ByteArray) (f n:Int) (h1:1 ≤ f) (h2:0 ≤ n):Go.Proofs.YtifdakibkadfiaaGreatDoor.zlc s f n=⟨((s.data.toList.drop (f - 1).toNat).take n.toNat).toArray⟩:=by
 have hsz:s.data.toList.length=s.size:=rfl
 unfold Go.Proofs.YtifdakibkadfiaaGreatDoor.zlc
 have e1:s.data.toList.drop (min (f - 1) (s.size:Int)).toNat=s.data.toList.drop (f - 1).toNat:=by
  rcases Int.le_total (f - 1) (s.size:Int) with h | h
  ·rw [Int.min_eq_left h]
  ·rw [Int.min_eq_right h,List.drop_of_length_le (l:=s.data.toList) (by rw [hsz];omega),List.drop_of_length_le (l:=s.data.toList) (by rw [hsz];omega)]
 rw [Lib.extract_from,e1]
 have e2:=Lib.size_mk (s.data.toList.drop (f - 1).toNat)
 rw [e2,Lib.extract_mk,List.drop_zero,Nat.sub_zero]
 congr 1
 congr 1
 rcases Int.le_total n ((s.data.toList.drop (f - 1).toNat).length:Int) with h | h
 ·rw [Int.min_eq_left h]
 ·rw [Int.min_eq_right h,List.take_of_length_le (by omega),List.take_of_length_le (by omega)]
theorem zaB (x:Val) (f n:Int) (hn:0 ≤ n):unG (Go.Proofs.YtifdakibkadfiaaGreatDoor.qJ (toG x) f n)=(⟨x.k,0,⟨(ziT x.s.data.toList f n).toArray⟩⟩,0):=by
 unfold Go.Proofs.YtifdakibkadfiaaGreatDoor.qJ ziT ptA ptB
 rw [if_neg (by omega)]
 by_cases h1:f < 1
 ·rw [if_pos h1,if_pos h1,if_pos h1]
  by_cases h2:f + n ≤ 1
  ·rw [if_pos h2,show (f + n - 1).toNat=0 by omega,List.take_zero];rfl
  ·rw [if_neg h2,zbo _ _ _ (by omega) (by omega)];rfl
 ·rw [if_neg h1,if_neg h1,if_neg h1,zbo _ _ _ (by omega) hn];rfl
theorem Vc (x y z:Val) (hs:x.s.size ≤ 1000000000) (hy:I64 y.i) (hz:I64 z.i):Good Tryz.prog 114 [cS zI,.c (qk [x,y,z])] [] (qY (unG (Go.Proofs.YtifdakibkadfiaaGreatDoor.qJ (toG x) y.i z.i)).1 (unG (Go.Proofs.YtifdakibkadfiaaGreatDoor.qJ (toG x) y.i z.i)).2) []:=by
 have gl:(0:Int) < ((1:Nat):Int):=by decide
 have f0:(zI.toList == vo.toList)=false:=(zF [115,117,98,115,116,114] [97,98,115]).trans rfl
 have f1:(zI.toList == qM.toList)=false:=(zF [115,117,98,115,116,114] [115,105,103,110]).trans rfl
 have f2:(zI.toList == zR.toList)=false:=(zF [115,117,98,115,116,114] [108,101,110,103,116,104]).trans rfl
 have f3:(zI.toList == ko.toList)=false:=(zF [115,117,98,115,116,114] [108,111,119,101,114]).trans rfl
 have f4:(zI.toList == ku.toList)=false:=(zF [115,117,98,115,116,114] [117,112,112,101,114]).trans rfl
 have f5:(zI.toList == vF.toList)=false:=(zF [115,117,98,115,116,114] [116,114,105,109]).trans rfl
 have f6:(zI.toList == zI.toList)=true:=beq_self_eq_true _
 have g2:(2:Int) < ((3:Nat):Int):=by decide
 have g0:(0:Int) < ((3:Nat):Int):=by decide
 have g1:(1:Int) < ((3:Nat):Int):=by decide
 refine Good.zg TT 4000 Tryz.func114 rfl rfl ?_
 unfold Tryz.f114
 by_cases hneg:z.i < 0
 ·have e:unG (Go.Proofs.YtifdakibkadfiaaGreatDoor.qJ (toG x) y.i z.i)=(zeroV,1):=by unfold Go.Proofs.YtifdakibkadfiaaGreatDoor.qJ;rw [if_pos hneg];rfl
  rw [e]
  simp only [go_sem,g0,g2,f0,f1,f2,f3,f4,f5,f6,hneg,go_sem_proc]
  exact Le.refl _
 ·rw [zaB x y.i z.i (by omega)]
  have hp:=zhV x.s y.i z.i hs hy hz (by omega)
  simp only [go_sem,g0,g1,g2,f0,f1,f2,f3,f4,f5,f6,hneg,go_sem_proc]
  refine Dr.ofC TT (by kernel_rfl) [(169,[cS x.s,cI y.i,cI z.i],cS ⟨(ziT x.s.data.toList y.i z.i).toArray⟩)] ⟨⟨hp,rfl⟩,trivial⟩ ?_
  simp only [go_sem,g0,g1,g2,go_sem_proc]
  refine jy.of TT 4000 (zJ (by kernel_rfl)) ?_
  simp only [go_sem,go_sem_proc]
  exact Le.refl _
theorem V5 (x y:Val) (hs:x.s.size ≤ 1000000000) (hy:y.s.size ≤ 1000000000):Good Tryz.prog 114 [cS kf,.c (qk [x,y])] [] (qY (unG (Go.Proofs.YtifdakibkadfiaaGreatDoor.instrS (toG x) (toG y))).1 (unG (Go.Proofs.YtifdakibkadfiaaGreatDoor.instrS (toG x) (toG y))).2) []:=by
 have gl:(0:Int) < ((1:Nat):Int):=by decide
 have f0:(kf.toList == vo.toList)=false:=(zF [105,110,115,116,114] [97,98,115]).trans rfl
 have f1:(kf.toList == qM.toList)=false:=(zF [105,110,115,116,114] [115,105,103,110]).trans rfl
 have f2:(kf.toList == zR.toList)=false:=(zF [105,110,115,116,114] [108,101,110,103,116,104]).trans rfl
 have f3:(kf.toList == ko.toList)=false:=(zF [105,110,115,116,114] [108,111,119,101,114]).trans rfl
 have f4:(kf.toList == ku.toList)=false:=(zF [105,110,115,116,114] [117,112,112,101,114]).trans rfl
 have f5:(kf.toList == vF.toList)=false:=(zF [105,110,115,116,114] [116,114,105,109]).trans rfl
 have f6:(kf.toList == zI.toList)=false:=(zF [105,110,115,116,114] [115,117,98,115,116,114]).trans rfl
 have f7:(kf.toList == kf.toList)=true:=beq_self_eq_true _
 have g0:(0:Int) < ((2:Nat):Int):=by decide
 have g1:(1:Int) < ((2:Nat):Int):=by decide
 have hp:=zju x.s y.s hs hy
 have b1:=Lib.index_ge x.s.data.toList y.s.data.toList
 have b2:=Lib.index_le x.s.data.toList y.s.data.toList
 have hsz:x.s.data.toList.length=x.s.size:=rfl
 have hw:IntKind.wrap .i64 (Lib.indexB x.s y.s + 1)=Lib.indexB x.s y.s + 1:=qd (by unfold Lib.indexB;omega) (by unfold Lib.indexB;omega)
 have e:unG (Go.Proofs.YtifdakibkadfiaaGreatDoor.instrS (toG x) (toG y))=(⟨2,Lib.indexB x.s y.s + 1,⟨#[]⟩⟩,0):=rfl
 rw [e]
 have hI:=qU (Lib.indexB x.s y.s + 1)
 generalize Lib.indexB x.s y.s=m at hp hw hI
 refine Good.zg TT 4000 Tryz.func114 rfl rfl ?_
 unfold Tryz.f114
 simp only [go_sem,g0,g1,f0,f1,f2,f3,f4,f5,f6,f7,go_sem_proc]
 refine Dr.ofC TT (by kernel_rfl) [(170,[cS x.s,cS y.s,cI 0],cI m),(36,[cI (m + 1)],(Val.mk 2 (m + 1) ⟨#[]⟩).av)] ⟨⟨hp,rfl⟩,⟨hI,rfl⟩,trivial⟩ ?_
 simp only [go_sem,g0,g1,hw,go_sem_proc]
 refine jy.of TT 4000 (zJ (by kernel_rfl)) ?_
 simp only [go_sem,go_sem_proc]
 exact Le.refl _
theorem zcK (s t u:ByteArray):unG (Go.Proofs.YtifdakibkadfiaaGreatDoor.replaceS s t u)=if (zjv s t u).2=0 then (⟨3,0,(zjv s t u).1⟩,0) else (zeroV,(zjv s t u).2):=by
 unfold Go.Proofs.YtifdakibkadfiaaGreatDoor.replaceS zjv
 by_cases h0:t.data.toList=[]
 ·rw [if_pos (by rw [Go.ByteArray.toList_eq];exact h0),if_pos h0];rfl
 ·have h0':¬ t.toList=[]:=by rw [Go.ByteArray.toList_eq];exact h0
  rw [if_neg h0',if_neg h0]
  have hl:=Go.Proofs.YtifdakibkadfiaaGreatDoor.yg s t u h0'
  rw [Lib.size_mk,yh _ _ _ h0] at hl
  rw [yh _ _ _ h0]
  by_cases hb:(zb3 t.data.toList u.data.toList s.data.toList).length > 100000
  ·rw [if_pos (by omega),if_pos hb];rfl
  ·rw [if_neg (by omega),if_neg hb];rfl
theorem XU (x y z:Val) (hs:x.s.size ≤ 10000000) (hy:y.s.size ≤ 10000000) (hz:z.s.size ≤ 10000000):Good Tryz.prog 114 [cS qA,.c (qk [x,y,z])] [] (qY (unG (Go.Proofs.YtifdakibkadfiaaGreatDoor.replaceS x.s y.s z.s)).1 (unG (Go.Proofs.YtifdakibkadfiaaGreatDoor.replaceS x.s y.s z.s)).2) []:=by
 have gl:(0:Int) < ((1:Nat):Int):=by decide
 have f0:(qA.toList == vo.toList)=false:=(zF [114,101,112,108,97,99,101] [97,98,115]).trans rfl
 have f1:(qA.toList == qM.toList)=false:=(zF [114,101,112,108,97,99,101] [115,105,103,110]).trans rfl
 have f2:(qA.toList == zR.toList)=false:=(zF [114,101,112,108,97,99,101] [108,101,110,103,116,104]).trans rfl
 have f3:(qA.toList == ko.toList)=false:=(zF [114,101,112,108,97,99,101] [108,111,119,101,114]).trans rfl
 have f4:(qA.toList == ku.toList)=false:=(zF [114,101,112,108,97,99,101] [117,112,112,101,114]).trans rfl
 have f5:(qA.toList == vF.toList)=false:=(zF [114,101,112,108,97,99,101] [116,114,105,109]).trans rfl
 have f6:(qA.toList == zI.toList)=false:=(zF [114,101,112,108,97,99,101] [115,117,98,115,116,114]).trans rfl
 have f7:(qA.toList == kf.toList)=false:=(zF [114,101,112,108,97,99,101] [105,110,115,116,114]).trans rfl
 have g2:(2:Int) < ((3:Nat):Int):=by decide
 have g0:(0:Int) < ((3:Nat):Int):=by decide
 have g1:(1:Int) < ((3:Nat):Int):=by decide
 have hp:=YV x.s y.s z.s hs hy hz
 rw [zcK]
 generalize zjv x.s y.s z.s=q at hp
 obtain ⟨o,e⟩:=q
 refine Good.zg TT 4000 Tryz.func114 rfl rfl ?_
 unfold Tryz.f114
 simp only [go_sem,g0,g1,g2,f0,f1,f2,f3,f4,f5,f6,f7,go_sem_proc]
 refine Dr.ofC TT (by kernel_rfl) [(171,[cS x.s,cS y.s,cS z.s],.tup [cS o,cI e])] ⟨⟨hp,rfl⟩,trivial⟩ ?_
 simp only [go_sem,g0,g1,g2,go_sem_proc]
 refine jy.of TT 4000 (zJ (by kernel_rfl)) ?_
 by_cases he:e=0
 ·have he':(e != 0)=false:=by simp [he]
  simp only [go_sem,he',he,go_sem_proc]
  refine Cl.pure TT 4000 (vE o) rfl rfl ?_
  simp only [go_sem,go_sem_proc]
  exact Le.refl _
 ·have he':(e != 0)=true:=by simp [he]
  simp only [go_sem,he',he,go_sem_proc]
  exact Le.refl _
end Go.Ev
end
