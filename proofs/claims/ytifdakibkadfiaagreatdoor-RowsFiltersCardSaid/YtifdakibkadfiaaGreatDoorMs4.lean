import Derived.Test.YtifdakibkadfiaaGreatDoorMs2
import Derived.Test.YtifdakibkadfiaaGreatDoorMg6
import Derived.Lib.IndexBytes
import Derived.Lib.TrimByte
import Derived.Test.YtifdakibkadfiaaGreatDoorMs3
set_option linter.all false
set_option maxRecDepth 100000
set_option maxHeartbeats 8000000
section
open Go Go.Proofs
namespace Go.Ev
theorem ba_push (l:List UInt8) (c:UInt8):(⟨l.toArray⟩:ByteArray) ++ ⟨#[c]⟩=⟨(l ++ [c]).toArray⟩:=by
 apply ByteArray.ext
 apply Array.ext'
 simp
theorem ba_one (p:ByteArray) {j:Nat} {c:UInt8} (hc:p[j]?=some c):p.extract j (j + 1)=⟨#[c]⟩:=by
 have h1:=cut_cons hc
 apply ByteArray.ext
 apply Array.ext'
 rw [ByteArray.data_extract,Array.toList_extract,List.extract_eq_take_drop,h1,show j + 1 - j=1 by omega]
 rfl
theorem take_push {p:ByteArray} {j:Nat} {c:UInt8} (hc:p[j]?=some c):p.data.toList.take (j + 1)=p.data.toList.take j ++ [c]:=by
 rw [ba_list] at hc
 obtain ⟨h5,h6⟩:=List.getElem?_eq_some_iff.1 hc
 rw [← h6,List.take_append_getElem h5]
theorem bytesC_one (c:UInt8):bytesC [[.int .u8 (c.toNat:Nat)]]=some [c]:=by
 have:=c.toNat_lt
 simp [bytesC,byteC]
theorem r03_turn (s:ByteArray) (f t:Nat) (hf:f + 26 ≤ 255) (ht:t + 26 ≤ 255) (hs:s.size ≤ 1000000000):Good Tryz.prog 168 [cS s,.c (.int .u8 f),.c (.int .u8 t)] [] (cS ⟨(s.data.toList.map (Go.Proofs.YtifdakibkadfiaaGreatDoor.turnB f t)).toArray⟩) []:=by
 have hsz:s.data.toList.length=s.size:=rfl
 refine Good.of_vmQ TT 4000 Tryz.func168 rfl rfl ?_
 unfold Tryz.f168
 simp only [go_sem,go_sem_proc]
 refine Lp.at TT 4000 0 (Nat.le_of_ble_eq_true rfl) [false,false,false,false,false,false,false,true,true,true,true,true,true,true,true,true,true,true,true,true,true,true,true,true,true,true,true,true,true,true,true,true,true,true,true,true,true,true] (fun j:Nat=>s.size - j) (fun j=>j ≤ s.size) (fun j=>[(7,cS ⟨((s.data.toList.take j).map (Go.Proofs.YtifdakibkadfiaaGreatDoor.turnB f t)).toArray⟩),(8,cI j)]) (fun _=>[]) (0) (Nat.zero_le _) ?_ ?_
 ·simp only [go_sem,go_sem_proc]
 ·rintro j i1
  rcases Nat.lt_or_ge j s.size with hlt | hge
  ·obtain ⟨c,hc⟩:=ba_at hlt
   have hw:=wrap_succ (j:=j) (by omega)
   have hb:=c.toNat_lt
   have h26:IntKind.wrap .u8 ((f:Int) + 26)=((f + 26:Nat):Int):=by unfold IntKind.wrap;simp [IntKind.bits,IntKind.signed];omega
   have hnx:List.map (Go.Proofs.YtifdakibkadfiaaGreatDoor.turnB f t) (s.data.toList.take (j + 1))=List.map (Go.Proofs.YtifdakibkadfiaaGreatDoor.turnB f t) (s.data.toList.take j) ++ [Go.Proofs.YtifdakibkadfiaaGreatDoor.turnB f t c]:=by rw [take_push hc,List.map_append];rfl
   by_cases c1:f ≤ c.toNat ∧ c.toNat < f + 26
   ·obtain ⟨d1,d2⟩:=c1
    have d1':(f:Int) ≤ (c.toNat:Int):=by omega
    have d2':(c.toNat:Int) < ((f + 26:Nat):Int):=by omega
    have hv:IntKind.wrap .u8 (IntKind.wrap .u8 ((c.toNat:Int) - (f:Int)) + (t:Int))=(((Go.Proofs.YtifdakibkadfiaaGreatDoor.turnB f t c).toNat:Nat):Int):=by
     rw [Go.Proofs.YtifdakibkadfiaaGreatDoor.turnB_in d1 d2 (by omega)]
     unfold IntKind.wrap;simp [IntKind.bits,IntKind.signed];omega
    simp only [go_sem,hlt,hc,h26,d1,d2,d1',d2',ge_iff_le,hv,bytesC_one,ba_push,hw,Option.map_some,go_sem_proc]
    refine ⟨by rw [List.length_take];omega,j + 1,by omega,by omega,?_,Fit1.of_eq rfl⟩
    rw [hnx];exact Fit1.of_eq rfl
   ·have hv:=Go.Proofs.YtifdakibkadfiaaGreatDoor.turnB_out (t:=t) c1
    by_cases d1:(f:Int) ≤ (c.toNat:Int)
    ·have d2:¬ ((c.toNat:Int) < ((f + 26:Nat):Int)):=by omega
     have d1':f ≤ c.toNat:=by omega
     have d2':¬ (c.toNat < f + 26):=by omega
     simp only [go_sem,hlt,hc,h26,d1,d2,d1',d2',ge_iff_le,bytesC_one,ba_push,hw,Option.map_some,go_sem_proc]
     rw [hv] at hnx
     refine ⟨by rw [List.length_take];omega,j + 1,by omega,by omega,?_,Fit1.of_eq rfl⟩
     rw [hnx];exact Fit1.of_eq rfl
    ·have d1':¬ f ≤ c.toNat:=by omega
     simp only [go_sem,hlt,hc,h26,d1,d1',ge_iff_le,bytesC_one,ba_push,hw,Option.map_some,go_sem_proc]
     rw [hv] at hnx
     refine ⟨by rw [List.length_take];omega,j + 1,by omega,by omega,?_,Fit1.of_eq rfl⟩
     rw [hnx];exact Fit1.of_eq rfl
  ·have:j=s.size:=by omega
   subst this
   have hk:s.data.toList.take s.size=s.data.toList:=List.take_length
   simp only [go_sem,Nat.lt_irrefl,hk,go_sem_proc]
theorem r03_at (s t:ByteArray) (hs:s.size ≤ 1000000000) (ht:t.size ≤ 1000000000):Good Tryz.prog 170 [cS s,cS t,cI 0] [] (cI (Lib.indexB s t)) []:=by
 refine Good.of_vmQ TT 4000 Tryz.func170 rfl rfl ?_
 unfold Tryz.f170
 simp only [go_sem,go_sem_proc]
 refine Lp.at TT 4000 0 (Nat.le_of_ble_eq_true rfl) [false,false,true,false,false,false,true,true,true,true,true,true,true,true,true,true,true,true,true,true,true,true,true,true,true,true] (fun j:Nat=>s.size + 1 - j) (fun j=>j ≤ s.size ∧ Lib.NoOccB s t j) (fun j=>[(2,cI j)]) (fun _=>[]) (0) (⟨Nat.zero_le _,fun j h=>absurd h (Nat.not_lt_zero _)⟩) ?_ ?_
 ·simp only [go_sem,go_sem_proc]
 ·rintro j ⟨i1,i2⟩
  have hw:IntKind.wrap .i64 ((j:Int) + (t.size:Int))=((j + t.size:Nat):Int):=by rw [wrap_id (by omega) (by omega)];omega
  have hw1:=wrap_succ (j:=j) (by omega)
  rcases Nat.lt_or_ge s.size (j + t.size) with hlt | hge
  ·have h1:¬ (((j + t.size:Nat):Int) ≤ (s.size:Int)):=by omega
   simp only [go_sem,hw,h1,go_sem_proc]
   exact Le.of_eq (congrArg cI (Lib.past s t j i2 (by omega) hlt).symm)
  ·have h1:(((j + t.size:Nat):Int) ≤ (s.size:Int)):=by omega
   cases hp:((s.extract j (j + t.size)).toList == t.toList)
   ·have h0:1 ≤ t.size:=by
     rcases Nat.eq_zero_or_pos t.size with h0 | h0
     ·exfalso
      have e1:t.data.toList=[]:=List.eq_nil_of_length_eq_zero h0
      have e2:(s.extract j (j + t.size)).data.toList=[]:=List.eq_nil_of_length_eq_zero (by
       have:(s.extract j (j + t.size)).size=(s.extract j (j + t.size)).data.toList.length:=rfl
       rw [← this,ByteArray.size_extract];omega)
      rw [Go.ByteArray.toList_eq,Go.ByteArray.toList_eq,e1,e2] at hp
      cases hp
     ·exact h0
    have hm:=Lib.miss_piece s t j i2 hge hp
    simp only [go_sem,hw,h1,hp,hw1,go_sem_proc]
    exact ⟨by omega,j + 1,by omega,⟨by omega,hm⟩,Fit1.of_eq rfl⟩
   ·simp only [go_sem,hw,h1,hp,go_sem_proc]
    exact ⟨by omega,Le.of_eq (congrArg cI (Lib.hit s t j i2 hge hp).symm)⟩
def ptA (f:Int):Nat:=if f < 1 then 0 else (f - 1).toNat
def ptB (f n:Int):Nat:=if f < 1 then (f + n - 1).toNat else n.toNat
def partL (l:List UInt8) (f n:Int):List UInt8:=(l.drop (ptA f)).take (ptB f n)
theorem part_step {l:List UInt8} {A B j:Nat} {c:UInt8} (ht:l.take (j + 1)=l.take j ++ [c]) (hl:(l.take j).length=j) :
  ((l.take (j + 1)).drop A).take B=if A ≤ j ∧ j < A + B then ((l.take j).drop A).take B ++ [c] else ((l.take j).drop A).take B:=by
 rw [ht]
 by_cases h1:A ≤ j
 ·rw [List.drop_append_of_le_length (by omega)]
  by_cases h2:j < A + B
  ·have e1:((l.take j).drop A ++ [c]).take B=(l.take j).drop A ++ [c]:=List.take_of_length_le (by rw [List.length_append,List.length_drop,hl];simp;omega)
   have e2:((l.take j).drop A).take B=(l.take j).drop A:=List.take_of_length_le (by rw [List.length_drop,hl];omega)
   rw [if_pos ⟨h1,h2⟩,e1,e2]
  ·rw [if_neg (by omega),List.take_append_of_le_length (by rw [List.length_drop,hl];omega)]
 ·rw [if_neg (by omega)]
  rw [List.drop_of_length_le (l:=l.take j ++ [c]) (by rw [List.length_append,hl];simp;omega),List.drop_of_length_le (l:=l.take j) (by omega)]
theorem r03_part (s:ByteArray) (f n:Int) (hs:s.size ≤ 1000000000) (hf:I64 f) (hn:I64 n) (hn0:0 ≤ n):Good Tryz.prog 169 [cS s,cI f,cI n] [] (cS ⟨(partL s.data.toList f n).toArray⟩) []:=by
 have hsz:s.data.toList.length=s.size:=rfl
 unfold I64 at hf hn
 refine Good.of_vmQ TT 4000 Tryz.func169 rfl rfl ?_
 unfold Tryz.f169
 simp only [go_sem,go_sem_proc]
 refine Lp.at TT 4000 0 (Nat.le_of_ble_eq_true rfl) [false,false,false,false,false,false,false,true,true,true,true,true,true,true,true,true,true,true,true,true,true,true,true,true,true,true,true,true,true,true,true,true,true,true,true,true,true,true,true,true,true,true,true,true,true,true,true,true] (fun j:Nat=>s.size - j) (fun j=>j ≤ s.size) (fun j=>[(7,cS ⟨(((s.data.toList.take j).drop (ptA f)).take (ptB f n)).toArray⟩),(8,cI j)]) (fun _=>[]) (0) (Nat.zero_le _) ?_ ?_
 ·simp only [go_sem,go_sem_proc]
 ·rintro j i1
  rcases Nat.lt_or_ge j s.size with hlt | hge
  ·obtain ⟨c,hc⟩:=ba_at hlt
   have hw:=wrap_succ (j:=j) (by omega)
   have hst:=part_step (A:=ptA f) (B:=ptB f n) (take_push hc) (by rw [List.length_take];omega)
   have hone:=ba_one s hc
   have hl1:j + 1 ≤ s.size:=by omega
   have hl2:j ≤ j + 1:=by omega
   have hlen:(((s.data.toList.take j).drop (ptA f)).take (ptB f n)).length ≤ 9223372036854775806:=by rw [List.length_take,List.length_drop,List.length_take];omega
   have hw3:IntKind.wrap .i64 (((j + 1:Nat):Int) - n)=((j + 1:Nat):Int) - n:=wrap_id (by omega) (by omega)
   by_cases q1:((j + 1:Nat):Int) < f
   ·have hno:¬ (ptA f ≤ j ∧ j < ptA f + ptB f n):=by unfold ptA ptB;rw [if_neg (by omega),if_neg (by omega)];omega
    rw [if_neg hno] at hst
    simp only [go_sem,hlt,hc,hw,q1,go_sem_proc]
    refine ⟨j + 1,by omega,by omega,?_,Fit1.of_eq rfl⟩
    rw [hst];exact Fit1.of_eq rfl
   by_cases q2:f > 0
   ·have hw2:IntKind.wrap .i64 (((j + 1:Nat):Int) - f)=((j + 1:Nat):Int) - f:=wrap_id (by omega) (by omega)
    have q2':¬ (f ≤ 0):=by omega
    by_cases q3:((j + 1:Nat):Int) - f ≥ n
    ·have hno:¬ (ptA f ≤ j ∧ j < ptA f + ptB f n):=by unfold ptA ptB;rw [if_neg (by omega),if_neg (by omega)];omega
     rw [if_neg hno] at hst
     simp only [go_sem,hlt,hc,hw,q1,q2,q2',hw2,q3,go_sem_proc]
     refine ⟨j + 1,by omega,by omega,?_,Fit1.of_eq rfl⟩
     rw [hst];exact Fit1.of_eq rfl
    ·have hyes:ptA f ≤ j ∧ j < ptA f + ptB f n:=by unfold ptA ptB;rw [if_neg (by omega),if_neg (by omega)];omega
     rw [if_pos hyes] at hst
     simp only [go_sem,hlt,hc,hw,q1,q2,q2',hw2,q3,hl1,hl2,Option.map_some,hone,ba_push,go_sem_proc]
     refine ⟨hlen,j + 1,by omega,by omega,?_,Fit1.of_eq rfl⟩
     rw [hst];exact Fit1.of_eq rfl
   ·have q2':f ≤ 0:=by omega
    by_cases q3:((j + 1:Nat):Int) - n ≥ f
    ·have hno:¬ (ptA f ≤ j ∧ j < ptA f + ptB f n):=by unfold ptA ptB;rw [if_pos (by omega),if_pos (by omega)];omega
     rw [if_neg hno] at hst
     simp only [go_sem,hlt,hc,hw,q1,q2,q2',hw3,q3,go_sem_proc]
     refine ⟨j + 1,by omega,by omega,?_,Fit1.of_eq rfl⟩
     rw [hst];exact Fit1.of_eq rfl
    ·have hyes:ptA f ≤ j ∧ j < ptA f + ptB f n:=by unfold ptA ptB;rw [if_pos (by omega),if_pos (by omega)];omega
     rw [if_pos hyes] at hst
     simp only [go_sem,hlt,hc,hw,q1,q2,q2',hw3,q3,hl1,hl2,Option.map_some,hone,ba_push,go_sem_proc]
     refine ⟨hlen,j + 1,by omega,by omega,?_,Fit1.of_eq rfl⟩
     rw [hst];exact Fit1.of_eq rfl
  ·have:j=s.size:=by omega
   subst this
   have hk:s.data.toList.take s.size=s.data.toList:=List.take_length
   simp only [go_sem,Nat.lt_irrefl,hk,go_sem_proc]
   exact Le.refl _
def rplL (t u:List UInt8) (s:List UInt8):List UInt8:=
 if h:t ≠ [] ∧ 0 ≤ Lib.index s t then s.take (Lib.index s t).toNat ++ u ++ rplL t u (s.drop ((Lib.index s t).toNat + t.length)) else s
 termination_by s.length
 decreasing_by
  have h1:=Lib.index_room s t h.2
  have h2:0 < t.length:=List.length_pos_iff.2 h.1
  rw [List.length_drop]
  omega
theorem rplL_hit {t u s:List UInt8} (ht:t ≠ []) (h:0 ≤ Lib.index s t):rplL t u s=s.take (Lib.index s t).toNat ++ u ++ rplL t u (s.drop ((Lib.index s t).toNat + t.length)):=by rw [rplL,dif_pos ⟨ht,h⟩]
theorem rplL_none {t u s:List UInt8} (h:¬ 0 ≤ Lib.index s t):rplL t u s=s:=by rw [rplL,dif_neg (fun h2=>h h2.2)]
theorem rplL_K (t u:List UInt8) (ht:t ≠ []):∀ (k:Nat) (s:List UInt8),k=Lib.count s t → Lib.replaceK t u k s=rplL t u s
 | 0,s,hk=>by
  rw [rplL_none]
  ·rfl
  ·intro h
   have:=Lib.count_hit (s:=s) (i:=(Lib.index s t).toNat) ht (by omega)
   omega
 | k + 1,s,hk=>by
  obtain ⟨i,hi⟩:=Lib.index_of_count (s:=s) (old:=t) (by omega)
  have hc:=Lib.count_hit ht hi
  rw [Lib.replaceK_hit t u k s i hi,rplL_hit ht (by omega),hi,show ((i:Int)).toNat=i from rfl,rplL_K t u ht k _ (by omega)]
theorem rplL_same (t:List UInt8) (ht:t ≠ []) (s:List UInt8):rplL t t s=s:=by
 by_cases h:0 ≤ Lib.index s t
 ·have h1:=Lib.index_room s t h
  have h2:0 < t.length:=List.length_pos_iff.2 ht
  rw [rplL_hit ht h,rplL_same t ht (s.drop ((Lib.index s t).toNat + t.length))]
  rcases Lib.index_spec s t with ⟨h3,_⟩ | ⟨i,h3,h4,h5,_⟩
  ·omega
  ·have hi:(Lib.index s t).toNat=i:=by omega
   rw [hi]
   rw [Lib.occAt_iff_take s t i (by omega),beq_iff_eq] at h5
   conv=>lhs;rw [List.append_assoc];arg 2;arg 1;rw [← h5]
   rw [← List.drop_drop,List.take_append_drop,List.take_append_drop]
 ·exact rplL_none h
 termination_by s.length
 decreasing_by
  rw [List.length_drop];omega
theorem replaceAll_rpl (s t u:List UInt8) (ht:t ≠ []):Lib.replaceAll s t u=rplL t u s:=by
 unfold Lib.replaceAll Lib.replace
 split
 ·rename_i h
  rw [← eq_of_beq h,rplL_same t ht]
 ·have:Lib.replaceNum s t (-1)=Lib.count s t:=by unfold Lib.replaceNum;rw [if_pos (.inl (by omega))]
  rw [this]
  exact rplL_K t u ht _ s rfl
def rplS (s t u:ByteArray):ByteArray × Int:=if t.data.toList=[] then (s,0) else if (rplL t.data.toList u.data.toList s.data.toList).length > 100000 then (⟨#[]⟩,30) else (⟨(rplL t.data.toList u.data.toList s.data.toList).toArray⟩,0)
theorem rpl_grow {c i T M U o:Nat} (hM:M=U + 1) (hT:1 ≤ T) (ho:o ≤ c * M):o + (i + U) ≤ (c + (i + T)) * M:=by
 rw [Nat.add_mul,Nat.add_mul]
 have h1:i ≤ i * M:=by
  subst hM;exact Nat.le_mul_of_pos_right i (by omega)
 have h2:M ≤ T * M:=Nat.le_mul_of_pos_left M hT
 omega
theorem r03_replace (s t u:ByteArray) (hs:s.size ≤ 10000000) (ht:t.size ≤ 10000000) (hu:u.size ≤ 10000000):Good Tryz.prog 171 [cS s,cS t,cS u] [] (.tup [cS (rplS s t u).1,cI (rplS s t u).2]) []:=by
 have hts:t.data.toList.length=t.size:=rfl
 refine Good.of_vmQ TT 4000 Tryz.func171 rfl rfl ?_
 unfold Tryz.f171
 unfold rplS
 by_cases h0:t.data.toList=[]
 ·have h0':(t.size == 0)=true:=by rw [← hts,h0];rfl
  simp only [go_sem,h0',h0,go_sem_proc]
 have h0':(t.size == 0)=false:=beq_eq_false_iff_ne.2 fun h=>h0 (List.eq_nil_of_length_eq_zero h)
 have hT:1 ≤ t.size:=by have:=beq_eq_false_iff_ne.1 h0';omega
 rw [if_neg h0]
 simp only [go_sem,h0',go_sem_proc]
 refine Lp.at TT 4000 0 (Nat.le_of_ble_eq_true rfl) [true,false,false,false,false,false,false,false,true,true,false,false,false,true,true,true,true,true,true,true,true,true,true,true,true,true,true,true,true,true,true] (fun a:List UInt8 × List UInt8=>a.2.length) (fun a=>a.1 ++ rplL t.data.toList u.data.toList a.2=rplL t.data.toList u.data.toList s.data.toList ∧ a.2.length ≤ s.size ∧ a.1.length ≤ (s.size - a.2.length) * (u.size + 1)) (fun a=>[(0,cS ⟨a.2.toArray⟩),(8,cS ⟨a.1.toArray⟩)]) (fun _=>[]) (([],s.data.toList)) (⟨rfl,Nat.le_refl _,Nat.zero_le _⟩) ?_ ?_
 ·simp only [go_sem,go_sem_proc]
 ·rintro ⟨o,r⟩ ⟨i1,i2,i3⟩
  simp only at i1 i2 i3
  have hA:=r03_at ⟨r.toArray⟩ t (by simp [ByteArray.size];omega) (by omega)
  have hix:Lib.indexB ⟨r.toArray⟩ t=Lib.index r t.data.toList:=rfl
  rw [hix] at hA
  have hcap:(s.size - r.length) * (u.size + 1) ≤ 10000000 * 10000001:=Nat.mul_le_mul (by omega) (by omega)
  have hcat:∀ x y:List UInt8,(⟨x.toArray⟩:ByteArray) ++ ⟨y.toArray⟩=⟨(x ++ y).toArray⟩:=fun x y=>by
   apply ByteArray.ext;apply Array.ext';simp
  by_cases hneg:Lib.index r t.data.toList < 0
  ·rw [rplL_none (by omega)] at i1
   rw [← i1]
   by_cases hbig:(o ++ r).length > 100000
   ·have hb:((((o ++ r).length:Nat):Int) > 100000):=by omega
    rw [if_pos hbig]
    simp only [go_sem,go_sem_proc]
    refine Cl.pure TT 4000 hA rfl rfl ?_
    simp only [go_sem,hneg,hcat,hb,go_sem_proc]
    omega
   ·have hb:¬ ((((o ++ r).length:Nat):Int) > 100000):=by omega
    rw [if_neg hbig]
    simp only [go_sem,go_sem_proc]
    refine Cl.pure TT 4000 hA rfl rfl ?_
    simp only [go_sem,hneg,hcat,hb,go_sem_proc]
    omega
  ·obtain ⟨i,hi⟩:∃ i:Nat,Lib.index r t.data.toList=i:=⟨(Lib.index r t.data.toList).toNat,by omega⟩
   have hroom:=Lib.index_room r t.data.toList (by omega)
   rw [rplL_hit h0 (by omega),hi,show ((i:Int)).toNat=i from rfl] at i1
   rw [hi] at hA hneg
   have x1:(⟨r.toArray⟩:ByteArray).extract 0 i=⟨(r.take i).toArray⟩:=Lib.extract_upto ⟨r.toArray⟩ i
   have x2:(⟨r.toArray⟩:ByteArray).extract (i + t.size) r.length=⟨(r.drop (i + t.size)).toArray⟩:=by
    have:=Lib.extract_from ⟨r.toArray⟩ (i + t.size)
    rw [Lib.size_mk] at this;exact this
   have y1:(i:Int) ≤ (r.length:Int):=by omega
   have y0:(0:Int) ≤ (i:Int):=by omega
   have y2:IntKind.wrap .i64 ((i:Int) + (t.size:Int))=((i + t.size:Nat):Int):=by rw [wrap_id (by omega) (by omega)];omega
   have y3:i + t.size ≤ r.length:=by omega
   have hu2:u=⟨u.data.toList.toArray⟩:=rfl
   simp only [go_sem,go_sem_proc]
   refine Cl.pure TT 4000 hA rfl rfl ?_
   simp only [go_sem,hneg,y0,y1,and_self,Int.toNat_natCast,x1,Option.map_some,y2,y3,x2,go_sem_proc]
   have hl1:(List.take i r).length=i:=by rw [List.length_take];omega
   have hl2:(List.drop (i + t.size) r).length=r.length - (i + t.size):=List.length_drop
   rw [hl1]
   refine ⟨by omega,by omega,(o ++ (r.take i ++ u.data.toList),r.drop (i + t.size)),by simp only [hl2];omega,⟨?_,by simp only [hl2];omega,?_⟩,Fit1.of_eq rfl,?_⟩
   ·simp only
    rw [← i1,hts,List.append_assoc,List.append_assoc]
   ·simp only [hl2,List.length_append,hl1]
    have hus:u.data.toList.length=u.size:=rfl
    have hg:=rpl_grow (c:=s.size - r.length) (i:=i) (T:=t.size) (M:=u.size + 1) (U:=u.size) (o:=o.length) rfl hT i3
    rw [hus,show s.size - (r.length - (i + t.size))=s.size - r.length + (i + t.size) by omega]
    exact hg
   ·simp only
    have e:(⟨o.toArray⟩:ByteArray) ++ (⟨(r.take i).toArray⟩ ++ u)=⟨(o ++ (r.take i ++ u.data.toList)).toArray⟩:=by
     apply ByteArray.ext;apply Array.ext';simp
    rw [e]
    exact Fit1.of_eq rfl
end Go.Ev
end
section
open Go Go.Proofs Go.RowKit
namespace Go.Ev
open Go.Proofs.YtifdakibkadfiaaGreatDoor (GV Rets VS SomeMax Fine)
theorem ref_Text1 (s:ByteArray):Good Tryz.prog 167 [cS s] [] (Val.mk 3 0 s).av []:=by
 refine Good.of_vmQ TT 4000 Tryz.func167 rfl rfl ?_
 unfold Tryz.f167
 simp only [go_sem,go_sem_proc]
abbrev n_abs:ByteArray:=⟨#[97,98,115]⟩
abbrev n_sign:ByteArray:=⟨#[115,105,103,110]⟩
abbrev n_length:ByteArray:=⟨#[108,101,110,103,116,104]⟩
abbrev n_lower:ByteArray:=⟨#[108,111,119,101,114]⟩
abbrev n_upper:ByteArray:=⟨#[117,112,112,101,114]⟩
abbrev n_trim:ByteArray:=⟨#[116,114,105,109]⟩
abbrev n_substr:ByteArray:=⟨#[115,117,98,115,116,114]⟩
abbrev n_instr:ByteArray:=⟨#[105,110,115,116,114]⟩
abbrev n_replace:ByteArray:=⟨#[114,101,112,108,97,99,101]⟩
theorem call_abs (x:Val) (hx:I64 x.i):Good Tryz.prog 114 [cS n_abs,.c (rowC [x])] [] (vals (unG (Go.Proofs.YtifdakibkadfiaaGreatDoor.absS (toG x))).1 (unG (Go.Proofs.YtifdakibkadfiaaGreatDoor.absS (toG x))).2) []:=by
 have gl:(0:Int) < ((1:Nat):Int):=by decide
 have f0:(n_abs.toList == n_abs.toList)=true:=beq_self_eq_true _
 have hN:=r03_Neg x hx
 by_cases h:x.i < 0
 ·have e:unG (Go.Proofs.YtifdakibkadfiaaGreatDoor.absS (toG x))=negV x:=by
   unfold Go.Proofs.YtifdakibkadfiaaGreatDoor.absS;rw [if_pos (show (toG x).i < 0 from h)];rfl
  rw [e]
  refine Good.of_vmQ TT 4000 Tryz.func114 rfl rfl ?_
  unfold Tryz.f114
  have h':¬ (x.i ≥ 0):=by omega
  simp only [go_sem,gl,f0,h',go_sem_proc]
  refine Cl.pure TT 4000 hN rfl rfl ?_
  simp only [go_sem,go_sem_proc]
  exact Le.refl _
 ·have e:unG (Go.Proofs.YtifdakibkadfiaaGreatDoor.absS (toG x))=(x,0):=by
   unfold Go.Proofs.YtifdakibkadfiaaGreatDoor.absS;rw [if_neg (show ¬ (toG x).i < 0 from h)];rfl
  rw [e]
  refine Good.of_vmQ TT 4000 Tryz.func114 rfl rfl ?_
  unfold Tryz.f114
  have h':(x.i ≥ 0):=by omega
  simp only [go_sem,gl,f0,h',go_sem_proc]
  exact Le.refl _
theorem pick_int {f:FuncId} {a b:Int} {r:AV} {l:List Entry} (h:a ≠ b):pick ((f,[cI a],r) :: l) f [cI b]=pick l f [cI b]:=by
 have:¬ (f=f ∧ [cI b]=[cI a]):=fun h2=>h (by have:=h2.2;simp at this;exact this.symm)
 simp only [pick,if_neg this]
theorem cmp_zero (x:Val) (hk:x.k=2) (hs:x.s.size=0):x.cmp ⟨2,0,⟨#[]⟩⟩=if x.i < 0 then -1 else if x.i > 0 then 1 else 0:=by
 have e:(x.s.toList == (⟨#[]⟩:ByteArray).toList)=true:=by rw [str_empty,hs];rfl
 have e2:x.s.toList=(⟨#[]⟩:ByteArray).toList:=eq_of_beq e
 have e3:Op.bytesLess (⟨#[]⟩:ByteArray).toList (⟨#[]⟩:ByteArray).toList=false:=by rw [Go.ByteArray.toList_eq];rfl
 unfold Val.cmp Val.lt Val.same
 simp only [hk,e2,e3,Int.lt_irrefl,decide_false,Bool.false_or,beq_self_eq_true,Bool.true_and,Bool.and_false,Bool.or_false,Bool.and_true]
 by_cases h1:x.i < 0
 ·simp [h1]
 ·by_cases h2:x.i=0
  ·simp [h2]
  ·have:x.i > 0:=by omega
   simp [h1,h2,this]
theorem call_sign (x:Val) (hk:x.k=2) (hs:x.s.size=0):Good Tryz.prog 114 [cS n_sign,.c (rowC [x])] [] (vals (unG (Go.Proofs.YtifdakibkadfiaaGreatDoor.signS (toG x))).1 (unG (Go.Proofs.YtifdakibkadfiaaGreatDoor.signS (toG x))).2) []:=by
 have gl:(0:Int) < ((1:Nat):Int):=by decide
 have f0:(n_sign.toList == n_abs.toList)=false:=(bs_eq [115,105,103,110] [97,98,115]).trans rfl
 have f1:(n_sign.toList == n_sign.toList)=true:=beq_self_eq_true _
 have hc:=ref_Compare x ⟨2,0,⟨#[]⟩⟩
 rw [cmp_zero x hk hs] at hc
 have e:unG (Go.Proofs.YtifdakibkadfiaaGreatDoor.signS (toG x))=(⟨2,if x.i < 0 then -1 else if x.i > 0 then 1 else 0,⟨#[]⟩⟩,0):=rfl
 rw [e]
 by_cases h1:x.i < 0
 ·rw [if_pos h1] at hc ⊢
  refine Good.of_vmQ TT 4000 Tryz.func114 rfl rfl ?_
  unfold Tryz.f114
  simp only [go_sem,gl,f0,f1,go_sem_proc]
  refine Dr.ofC TT (by kernel_rfl) [(36,[cI 0],(Val.mk 2 0 ⟨#[]⟩).av),(69,[x.av,(Val.mk 2 0 ⟨#[]⟩).av],cI (-1)),(36,[cI (-1)],(Val.mk 2 (-1) ⟨#[]⟩).av)] ⟨⟨ref_Int1 0,rfl⟩,⟨hc,rfl⟩,⟨ref_Int1 (-1),rfl⟩,trivial⟩ ?_
  simp only [go_sem,pick_int (show (0:Int) ≠ -1 by decide),pick_next,go_sem_proc]
  refine DEnd.of TT 4000 (memOK_of2 (by kernel_rfl)) ?_
  simp only [go_sem,go_sem_proc]
  exact Le.refl _
 ·rw [if_neg h1] at hc ⊢
  by_cases h2:x.i > 0
  ·rw [if_pos h2] at hc ⊢
   refine Good.of_vmQ TT 4000 Tryz.func114 rfl rfl ?_
   unfold Tryz.f114
   simp only [go_sem,gl,f0,f1,go_sem_proc]
   refine Dr.ofC TT (by kernel_rfl) [(36,[cI 0],(Val.mk 2 0 ⟨#[]⟩).av),(69,[x.av,(Val.mk 2 0 ⟨#[]⟩).av],cI (1)),(36,[cI (1)],(Val.mk 2 (1) ⟨#[]⟩).av)] ⟨⟨ref_Int1 0,rfl⟩,⟨hc,rfl⟩,⟨ref_Int1 (1),rfl⟩,trivial⟩ ?_
   simp only [go_sem,pick_int (show (0:Int) ≠ 1 by decide),pick_next,go_sem_proc]
   refine DEnd.of TT 4000 (memOK_of2 (by kernel_rfl)) ?_
   simp only [go_sem,go_sem_proc]
   exact Le.refl _
  ·rw [if_neg h2] at hc ⊢
   refine Good.of_vmQ TT 4000 Tryz.func114 rfl rfl ?_
   unfold Tryz.f114
   simp only [go_sem,gl,f0,f1,go_sem_proc]
   refine Dr.ofC TT (by kernel_rfl) [(36,[cI 0],(Val.mk 2 0 ⟨#[]⟩).av),(69,[x.av,(Val.mk 2 0 ⟨#[]⟩).av],cI (0))] ⟨⟨ref_Int1 0,rfl⟩,⟨hc,rfl⟩,trivial⟩ ?_
   simp only [go_sem,go_sem_proc]
   refine DEnd.of TT 4000 (memOK_of2 (by kernel_rfl)) ?_
   simp only [go_sem,go_sem_proc]
   exact Le.refl _
theorem call_length (x:Val) :Good Tryz.prog 114 [cS n_length,.c (rowC [x])] [] (vals (unG (Go.Proofs.YtifdakibkadfiaaGreatDoor.lengthS (toG x))).1 (unG (Go.Proofs.YtifdakibkadfiaaGreatDoor.lengthS (toG x))).2) []:=by
 have gl:(0:Int) < ((1:Nat):Int):=by decide
 have f0:(n_length.toList == n_abs.toList)=false:=(bs_eq [108,101,110,103,116,104] [97,98,115]).trans rfl
 have f1:(n_length.toList == n_sign.toList)=false:=(bs_eq [108,101,110,103,116,104] [115,105,103,110]).trans rfl
 have f2:(n_length.toList == n_length.toList)=true:=beq_self_eq_true _
 refine Good.of_vmQ TT 4000 Tryz.func114 rfl rfl ?_
 unfold Tryz.f114
 simp only [go_sem,gl,f0,f1,f2,go_sem_proc]
 refine Cl.pure TT 4000 (ref_Int1 _) rfl rfl ?_
 simp only [go_sem,go_sem_proc]
 exact Le.refl _
theorem call_lower (x:Val) (hs:x.s.size ≤ 1000000000):Good Tryz.prog 114 [cS n_lower,.c (rowC [x])] [] (vals (unG (Go.Proofs.YtifdakibkadfiaaGreatDoor.lowerS (toG x))).1 (unG (Go.Proofs.YtifdakibkadfiaaGreatDoor.lowerS (toG x))).2) []:=by
 have gl:(0:Int) < ((1:Nat):Int):=by decide
 have f0:(n_lower.toList == n_abs.toList)=false:=(bs_eq [108,111,119,101,114] [97,98,115]).trans rfl
 have f1:(n_lower.toList == n_sign.toList)=false:=(bs_eq [108,111,119,101,114] [115,105,103,110]).trans rfl
 have f2:(n_lower.toList == n_length.toList)=false:=(bs_eq [108,111,119,101,114] [108,101,110,103,116,104]).trans rfl
 have f3:(n_lower.toList == n_lower.toList)=true:=beq_self_eq_true _
 refine Good.of_vmQ TT 4000 Tryz.func114 rfl rfl ?_
 unfold Tryz.f114
 simp only [go_sem,gl,f0,f1,f2,f3,go_sem_proc]
 refine Cl.pure TT 4000 (r03_turn x.s 65 97 (by omega) (by omega) hs) rfl rfl ?_
 simp only [go_sem,go_sem_proc]
 refine Cl.pure TT 4000 (ref_Text1 _) rfl rfl ?_
 simp only [go_sem,go_sem_proc]
 exact Le.refl _
theorem call_upper (x:Val) (hs:x.s.size ≤ 1000000000):Good Tryz.prog 114 [cS n_upper,.c (rowC [x])] [] (vals (unG (Go.Proofs.YtifdakibkadfiaaGreatDoor.upperS (toG x))).1 (unG (Go.Proofs.YtifdakibkadfiaaGreatDoor.upperS (toG x))).2) []:=by
 have gl:(0:Int) < ((1:Nat):Int):=by decide
 have f0:(n_upper.toList == n_abs.toList)=false:=(bs_eq [117,112,112,101,114] [97,98,115]).trans rfl
 have f1:(n_upper.toList == n_sign.toList)=false:=(bs_eq [117,112,112,101,114] [115,105,103,110]).trans rfl
 have f2:(n_upper.toList == n_length.toList)=false:=(bs_eq [117,112,112,101,114] [108,101,110,103,116,104]).trans rfl
 have f3:(n_upper.toList == n_lower.toList)=false:=(bs_eq [117,112,112,101,114] [108,111,119,101,114]).trans rfl
 have f4:(n_upper.toList == n_upper.toList)=true:=beq_self_eq_true _
 refine Good.of_vmQ TT 4000 Tryz.func114 rfl rfl ?_
 unfold Tryz.f114
 simp only [go_sem,gl,f0,f1,f2,f3,f4,go_sem_proc]
 refine Cl.pure TT 4000 (r03_turn x.s 97 65 (by omega) (by omega) hs) rfl rfl ?_
 simp only [go_sem,go_sem_proc]
 refine Cl.pure TT 4000 (ref_Text1 _) rfl rfl ?_
 simp only [go_sem,go_sem_proc]
 exact Le.refl _
theorem dw_nil {p:UInt8 → Bool}:∀ {l:List UInt8},l.dropWhile p=[] ↔ ∀ x,x ∈ l → p x=true
 | []=>by simp
 | a :: l=>by
  rw [List.dropWhile_cons]
  cases h:p a
  ·simp [h]
  ·simp only [if_true,List.mem_cons,forall_eq_or_imp,h,true_and];exact dw_nil
def rdrop (c:UInt8) (l:List UInt8):List UInt8:=(l.reverse.dropWhile (· == c)).reverse
theorem rdrop_cons (c x:UInt8) (l:List UInt8):rdrop c (x :: l)=if (l.all (· == c))=true then (if x=c then [] else [x]) else x :: rdrop c l:=by
 unfold rdrop
 rw [List.reverse_cons,List.dropWhile_append]
 by_cases h:(l.all (· == c))=true
 ·have:l.reverse.dropWhile (· == c)=[]:=by
   rw [dw_nil]
   intro y hy
   exact List.all_eq_true.1 h y (List.mem_reverse.1 hy)
  rw [this,if_pos h]
  simp only [List.isEmpty_nil,if_true]
  by_cases hx:x=c
  ·simp [hx]
  ·rw [if_neg hx]
   have:(x == c)=false:=beq_eq_false_iff_ne.2 hx
   simp [List.dropWhile_cons,this]
 ·have:(l.reverse.dropWhile (· == c)) ≠ []:=by
   intro h2
   apply h
   rw [dw_nil] at h2
   rw [List.all_eq_true]
   intro y hy
   exact h2 y (List.mem_reverse.2 hy)
  rw [if_neg (by simpa using this),if_neg h,List.reverse_append];rfl
theorem ldrop_all {c:UInt8} {l:List UInt8} (h:(l.all (· == c))=true):l.dropWhile (· == c)=[]:=by
 rw [dw_nil];exact List.all_eq_true.1 h
theorem trim_comm (c:UInt8):∀ l:List UInt8,rdrop c (l.dropWhile (· == c))=(rdrop c l).dropWhile (· == c)
 | []=>rfl
 | x :: l=>by
  rw [rdrop_cons]
  by_cases hx:x=c
  ·have hx':(x == c)=true:=by simp [hx]
   rw [List.dropWhile_cons,hx',if_pos rfl]
   by_cases h:(l.all (· == c))=true
   ·rw [if_pos h,if_pos hx,ldrop_all h];rfl
   ·rw [if_neg h,List.dropWhile_cons,hx',if_pos rfl];exact trim_comm c l
  ·have hx':(x == c)=false:=by simp [hx]
   rw [List.dropWhile_cons,hx',if_neg (by simp),rdrop_cons]
   by_cases h:(l.all (· == c))=true
   ·rw [if_pos h,if_neg hx,List.dropWhile_cons,hx',if_neg (by simp)]
   ·rw [if_neg h,List.dropWhile_cons,hx',if_neg (by simp)]
theorem rdrop_snoc (c x:UInt8) (l:List UInt8):rdrop c (l ++ [x])=if x=c then rdrop c l else l ++ [x]:=by
 unfold rdrop
 rw [List.reverse_append]
 show (List.dropWhile (· == c) (x :: l.reverse)).reverse=_
 rw [List.dropWhile_cons]
 by_cases hx:x=c
 ·rw [if_pos (by simp [hx]),if_pos hx]
 ·rw [if_neg (by simp [hx]),if_neg hx,List.reverse_cons,List.reverse_reverse]
theorem trim_end (x:Val) (q r:List UInt8) (h1:x.s.data.toList.dropWhile (· == 32)=r) (h2:rdrop 32 r=rdrop 32 q) (h3:rdrop 32 q=q):unG (Go.Proofs.YtifdakibkadfiaaGreatDoor.trimS (toG x))=(⟨3,0,⟨q.toArray⟩⟩,0):=by
 have e:Lib.trimB x.s.data.toList 32=q:=by
  show (rdrop 32 x.s.data.toList).dropWhile (· == 32)=q
  rw [← trim_comm,h1,h2,h3]
 show ((⟨3,0,⟨(Lib.trimB x.s.data.toList 32).toArray⟩⟩:Val),(0:Int))=_
 rw [e]
theorem call_trim (x:Val) (hs:x.s.size ≤ 1000000000):Good Tryz.prog 114 [cS n_trim,.c (rowC [x])] [] (vals (unG (Go.Proofs.YtifdakibkadfiaaGreatDoor.trimS (toG x))).1 (unG (Go.Proofs.YtifdakibkadfiaaGreatDoor.trimS (toG x))).2) []:=by
 have gl:(0:Int) < ((1:Nat):Int):=by decide
 have f0:(n_trim.toList == n_abs.toList)=false:=(bs_eq [116,114,105,109] [97,98,115]).trans rfl
 have f1:(n_trim.toList == n_sign.toList)=false:=(bs_eq [116,114,105,109] [115,105,103,110]).trans rfl
 have f2:(n_trim.toList == n_length.toList)=false:=(bs_eq [116,114,105,109] [108,101,110,103,116,104]).trans rfl
 have f3:(n_trim.toList == n_lower.toList)=false:=(bs_eq [116,114,105,109] [108,111,119,101,114]).trans rfl
 have f4:(n_trim.toList == n_upper.toList)=false:=(bs_eq [116,114,105,109] [117,112,112,101,114]).trans rfl
 have f5:(n_trim.toList == n_trim.toList)=true:=beq_self_eq_true _
 refine Good.of_vmQ TT 4000 Tryz.func114 rfl rfl ?_
 unfold Tryz.f114
 simp only [go_sem,gl,f0,f1,f2,f3,f4,f5,go_sem_proc]
 refine Lp.at TT 4000 2 (Nat.le_of_ble_eq_true rfl) [false,false,false,false,false,false,false,true,false,false,false,false,false,false,false,false,false,false,false,false,false,false,false,false,false,false,false,false,false,false,false,false,false,false,false,false,false,false,false,false,false,false,false,false,false,false,false,false,false,false,false,false,true,true,true,true,true,true,true,true,true,true] (fun r:List UInt8=>r.length) (fun r=>r.length ≤ x.s.size ∧ r.dropWhile (· == 32)=x.s.data.toList.dropWhile (· == 32)) (fun r=>[(7,cS ⟨r.toArray⟩)]) (fun _=>[]) (x.s.data.toList) (⟨Nat.le_refl _,rfl⟩) ?_ ?_
 ·simp only [go_sem,go_sem_proc]
 ·rintro r ⟨i1,i2⟩
  cases r with
  | cons c r =>
   simp only [List.length_cons] at i1
   have hg:(⟨(c :: r).toArray⟩:ByteArray)[0]?=some c:=by rw [ba_list];rfl
   have hl:((r.length + 1:Nat):Int) > 0:=by omega
   have h1:1 ≤ r.length + 1:=by omega
   by_cases hc:c=32
   ·have hb:(((c.toNat:Nat):Int) == 32)=true:=by rw [hc];rfl
    have hx:(⟨(c :: r).toArray⟩:ByteArray).extract 1 (r.length + 1)=⟨r.toArray⟩:=by
     have:=Lib.extract_from ⟨(c :: r).toArray⟩ 1
     rw [Lib.size_mk] at this;exact this
    simp only [go_sem,hl,hg,hb,hx,h1,Option.map_some,go_sem_proc]
    exact ⟨by omega,r,by omega,⟨by omega,by rw [← i2,List.dropWhile_cons,if_pos (by simp [hc])]⟩,Fit1.of_eq rfl⟩
   ·have hb:(((c.toNat:Nat):Int) == 32)=false:=by
     rw [beq_eq_false_iff_ne];intro h;apply hc;apply UInt8.toNat_inj.1
     show c.toNat=32;omega
    have i3:x.s.data.toList.dropWhile (· == 32)=c :: r:=by rw [← i2,List.dropWhile_cons,if_neg (by simp [hc])]
    simp only [go_sem,hl,hg,hb,go_sem_proc]
    refine Lp.at TT 4000 2 (Nat.le_of_ble_eq_true rfl) [false,false,false,false,false,false,false,true,false,false,false,false,false,false,false,false,false,false,false,false,false,false,false,false,false,false,false,false,false,false,false,false,false,false,false,false,false,false,false,false,false,false,false,false,false,false,false,false,false,false,false,false,false,false,false,false,false,false,false,false,false,false,true,true,true,true,true,true,true,true,true,true,true,true,true,true,true,true] (fun q:List UInt8=>q.length) (fun q=>q.length ≤ x.s.size ∧ rdrop 32 q=rdrop 32 (c :: r)) (fun q=>[(7,cS ⟨q.toArray⟩)]) (fun _=>[]) ((c :: r)) (⟨by simp;try omega,rfl⟩) ?_ ?_
    ·simp only [go_sem,go_sem_proc]
    ·rintro q ⟨j1,j2⟩
     rcases List.eq_nil_or_concat q with rfl | ⟨q,d,rfl⟩
     ·simp only [go_sem,go_sem_proc]
      refine Cl.pure TT 4000 (ref_Text1 _) rfl rfl ?_
      have e:unG (Go.Proofs.YtifdakibkadfiaaGreatDoor.trimS (toG x))=(⟨3,0,⟨([]:List UInt8).toArray⟩⟩,0):=trim_end x [] (c :: r) i3 j2.symm rfl
      rw [e]
      simp only [go_sem,go_sem_proc]
      exact Le.refl _
     ·simp only [List.concat_eq_append,List.length_append,List.length_cons,List.length_nil,Nat.zero_add] at j1 j2 ⊢
      have qg:(⟨(q ++ [d]).toArray⟩:ByteArray)[q.length]?=some d:=by rw [ba_list];simp
      have ql:((q.length + 1:Nat):Int) > 0:=by omega
      have qw:IntKind.wrap .i64 (((q.length + 1:Nat):Int) - 1)=((q.length:Nat):Int):=by rw [wrap_id (by omega) (by omega)];omega
      have qx:(⟨(q ++ [d]).toArray⟩:ByteArray).extract 0 q.length=⟨q.toArray⟩:=by
       have:=Lib.extract_upto ⟨(q ++ [d]).toArray⟩ q.length
       rw [this];simp
      have q1:q.length < q.length + 1:=by omega
      have q2:((q.length:Nat):Int) ≤ ((q.length + 1:Nat):Int):=by omega
      have q3:q.length ≤ q.length + 1:=by omega
      rw [rdrop_snoc] at j2
      by_cases hd:d=32
      ·have hb:(((d.toNat:Nat):Int) == 32)=true:=by rw [hd];rfl
       rw [if_pos hd] at j2
       simp only [go_sem,ql,qw,qg,hb,qx,q1,q2,q3,List.length_append,List.length_cons,List.length_nil,Nat.zero_add,Option.map_some,go_sem_proc]
       exact ⟨q,q1,⟨by omega,j2⟩,Fit1.of_eq rfl⟩
      ·have hb:(((d.toNat:Nat):Int) == 32)=false:=by
        rw [beq_eq_false_iff_ne];intro h;apply hd;apply UInt8.toNat_inj.1
        show d.toNat=32;omega
       rw [if_neg hd] at j2
       have e:unG (Go.Proofs.YtifdakibkadfiaaGreatDoor.trimS (toG x))=(⟨3,0,⟨(q ++ [d]).toArray⟩⟩,0):=trim_end x (q ++ [d]) (c :: r) i3 (by rw [← j2,rdrop_snoc,if_neg hd]) (by rw [rdrop_snoc,if_neg hd])
       rw [e]
       simp only [go_sem,ql,qw,qg,hb,q1,List.length_append,List.length_cons,List.length_nil,Nat.zero_add,go_sem_proc]
       refine Cl.pure TT 4000 (ref_Text1 _) rfl rfl ?_
       simp only [go_sem,go_sem_proc]
       exact Le.refl _
  | nil =>
   have i3:x.s.data.toList.dropWhile (· == 32)=[]:=by rw [← i2];rfl
   simp only [go_sem,go_sem_proc]
   refine Lp.at TT 4000 2 (Nat.le_of_ble_eq_true rfl) [false,false,false,false,false,false,false,true,false,false,false,false,false,false,false,false,false,false,false,false,false,false,false,false,false,false,false,false,false,false,false,false,false,false,false,false,false,false,false,false,false,false,false,false,false,false,false,false,false,false,false,false,false,false,false,false,false,false,false,false,false,false,true,true,true,true,true,true,true,true,true,true,true,true,true,true,true,true] (fun q:List UInt8=>q.length) (fun q=>q.length ≤ x.s.size ∧ rdrop 32 q=rdrop 32 ([])) (fun q=>[(7,cS ⟨q.toArray⟩)]) (fun _=>[]) (([])) (⟨by simp;try omega,rfl⟩) ?_ ?_
   ·simp only [go_sem,go_sem_proc]
   ·rintro q ⟨j1,j2⟩
    rcases List.eq_nil_or_concat q with rfl | ⟨q,d,rfl⟩
    ·simp only [go_sem,go_sem_proc]
     refine Cl.pure TT 4000 (ref_Text1 _) rfl rfl ?_
     have e:unG (Go.Proofs.YtifdakibkadfiaaGreatDoor.trimS (toG x))=(⟨3,0,⟨([]:List UInt8).toArray⟩⟩,0):=trim_end x [] ([]) i3 j2.symm rfl
     rw [e]
     simp only [go_sem,go_sem_proc]
     exact Le.refl _
    ·simp only [List.concat_eq_append,List.length_append,List.length_cons,List.length_nil,Nat.zero_add] at j1 j2 ⊢
     have qg:(⟨(q ++ [d]).toArray⟩:ByteArray)[q.length]?=some d:=by rw [ba_list];simp
     have ql:((q.length + 1:Nat):Int) > 0:=by omega
     have qw:IntKind.wrap .i64 (((q.length + 1:Nat):Int) - 1)=((q.length:Nat):Int):=by rw [wrap_id (by omega) (by omega)];omega
     have qx:(⟨(q ++ [d]).toArray⟩:ByteArray).extract 0 q.length=⟨q.toArray⟩:=by
      have:=Lib.extract_upto ⟨(q ++ [d]).toArray⟩ q.length
      rw [this];simp
     have q1:q.length < q.length + 1:=by omega
     have q2:((q.length:Nat):Int) ≤ ((q.length + 1:Nat):Int):=by omega
     have q3:q.length ≤ q.length + 1:=by omega
     rw [rdrop_snoc] at j2
     by_cases hd:d=32
     ·have hb:(((d.toNat:Nat):Int) == 32)=true:=by rw [hd];rfl
      rw [if_pos hd] at j2
      simp only [go_sem,ql,qw,qg,hb,qx,q1,q2,q3,List.length_append,List.length_cons,List.length_nil,Nat.zero_add,Option.map_some,go_sem_proc]
      exact ⟨q,q1,⟨by omega,j2⟩,Fit1.of_eq rfl⟩
     ·have hb:(((d.toNat:Nat):Int) == 32)=false:=by
       rw [beq_eq_false_iff_ne];intro h;apply hd;apply UInt8.toNat_inj.1
       show d.toNat=32;omega
      rw [if_neg hd] at j2
      have e:unG (Go.Proofs.YtifdakibkadfiaaGreatDoor.trimS (toG x))=(⟨3,0,⟨(q ++ [d]).toArray⟩⟩,0):=trim_end x (q ++ [d]) ([]) i3 (by rw [← j2,rdrop_snoc,if_neg hd]) (by rw [rdrop_snoc,if_neg hd])
      rw [e]
      simp only [go_sem,ql,qw,qg,hb,q1,List.length_append,List.length_cons,List.length_nil,Nat.zero_add,go_sem_proc]
      refine Cl.pure TT 4000 (ref_Text1 _) rfl rfl ?_
      simp only [go_sem,go_sem_proc]
      exact Le.refl _
theorem cut_list (s:ByteArray) (f n:Int) (h1:1 ≤ f) (h2:0 ≤ n):Go.Proofs.YtifdakibkadfiaaGreatDoor.cutS s f n=⟨((s.data.toList.drop (f - 1).toNat).take n.toNat).toArray⟩:=by
 have hsz:s.data.toList.length=s.size:=rfl
 unfold Go.Proofs.YtifdakibkadfiaaGreatDoor.cutS
 have e1:s.data.toList.drop (min (f - 1) (s.size:Int)).toNat=s.data.toList.drop (f - 1).toNat:=by
  rcases Int.le_total (f - 1) (s.size:Int) with h | h
  ·rw [Int.min_eq_left h]
  ·rw [Int.min_eq_right h,List.drop_of_length_le (l:=s.data.toList) (by rw [hsz];omega),List.drop_of_length_le (l:=s.data.toList) (by rw [hsz];omega)]
 rw [Lib.extract_from,e1]
 have e2:=Lib.size_mk (s.data.toList.drop (f - 1).toNat)
 rw [e2,Lib.extract_mk,List.drop_zero,Nat.sub_zero]
 congr 1
 congr 1
 rcases Int.le_total n ((s.data.toList.drop (f - 1).toNat).length:Int) with h | h
 ·rw [Int.min_eq_left h]
 ·rw [Int.min_eq_right h,List.take_of_length_le (by omega),List.take_of_length_le (by omega)]
theorem substr_part (x:Val) (f n:Int) (hn:0 ≤ n):unG (Go.Proofs.YtifdakibkadfiaaGreatDoor.substrS (toG x) f n)=(⟨x.k,0,⟨(partL x.s.data.toList f n).toArray⟩⟩,0):=by
 unfold Go.Proofs.YtifdakibkadfiaaGreatDoor.substrS partL ptA ptB
 rw [if_neg (by omega)]
 by_cases h1:f < 1
 ·rw [if_pos h1,if_pos h1,if_pos h1]
  by_cases h2:f + n ≤ 1
  ·rw [if_pos h2,show (f + n - 1).toNat=0 by omega,List.take_zero];rfl
  ·rw [if_neg h2,cut_list _ _ _ (by omega) (by omega)];rfl
 ·rw [if_neg h1,if_neg h1,if_neg h1,cut_list _ _ _ (by omega) hn];rfl
theorem call_substr (x y z:Val) (hs:x.s.size ≤ 1000000000) (hy:I64 y.i) (hz:I64 z.i):Good Tryz.prog 114 [cS n_substr,.c (rowC [x,y,z])] [] (vals (unG (Go.Proofs.YtifdakibkadfiaaGreatDoor.substrS (toG x) y.i z.i)).1 (unG (Go.Proofs.YtifdakibkadfiaaGreatDoor.substrS (toG x) y.i z.i)).2) []:=by
 have gl:(0:Int) < ((1:Nat):Int):=by decide
 have f0:(n_substr.toList == n_abs.toList)=false:=(bs_eq [115,117,98,115,116,114] [97,98,115]).trans rfl
 have f1:(n_substr.toList == n_sign.toList)=false:=(bs_eq [115,117,98,115,116,114] [115,105,103,110]).trans rfl
 have f2:(n_substr.toList == n_length.toList)=false:=(bs_eq [115,117,98,115,116,114] [108,101,110,103,116,104]).trans rfl
 have f3:(n_substr.toList == n_lower.toList)=false:=(bs_eq [115,117,98,115,116,114] [108,111,119,101,114]).trans rfl
 have f4:(n_substr.toList == n_upper.toList)=false:=(bs_eq [115,117,98,115,116,114] [117,112,112,101,114]).trans rfl
 have f5:(n_substr.toList == n_trim.toList)=false:=(bs_eq [115,117,98,115,116,114] [116,114,105,109]).trans rfl
 have f6:(n_substr.toList == n_substr.toList)=true:=beq_self_eq_true _
 have g2:(2:Int) < ((3:Nat):Int):=by decide
 have g0:(0:Int) < ((3:Nat):Int):=by decide
 have g1:(1:Int) < ((3:Nat):Int):=by decide
 refine Good.of_vmQ TT 4000 Tryz.func114 rfl rfl ?_
 unfold Tryz.f114
 by_cases hneg:z.i < 0
 ·have e:unG (Go.Proofs.YtifdakibkadfiaaGreatDoor.substrS (toG x) y.i z.i)=(zeroV,1):=by unfold Go.Proofs.YtifdakibkadfiaaGreatDoor.substrS;rw [if_pos hneg];rfl
  rw [e]
  simp only [go_sem,g0,g2,f0,f1,f2,f3,f4,f5,f6,hneg,go_sem_proc]
  exact Le.refl _
 ·rw [substr_part x y.i z.i (by omega)]
  have hp:=r03_part x.s y.i z.i hs hy hz (by omega)
  simp only [go_sem,g0,g1,g2,f0,f1,f2,f3,f4,f5,f6,hneg,go_sem_proc]
  refine Dr.ofC TT (by kernel_rfl) [(169,[cS x.s,cI y.i,cI z.i],cS ⟨(partL x.s.data.toList y.i z.i).toArray⟩)] ⟨⟨hp,rfl⟩,trivial⟩ ?_
  simp only [go_sem,g0,g1,g2,go_sem_proc]
  refine DEnd.of TT 4000 (memOK_of2 (by kernel_rfl)) ?_
  simp only [go_sem,go_sem_proc]
  exact Le.refl _
theorem call_instr (x y:Val) (hs:x.s.size ≤ 1000000000) (hy:y.s.size ≤ 1000000000):Good Tryz.prog 114 [cS n_instr,.c (rowC [x,y])] [] (vals (unG (Go.Proofs.YtifdakibkadfiaaGreatDoor.instrS (toG x) (toG y))).1 (unG (Go.Proofs.YtifdakibkadfiaaGreatDoor.instrS (toG x) (toG y))).2) []:=by
 have gl:(0:Int) < ((1:Nat):Int):=by decide
 have f0:(n_instr.toList == n_abs.toList)=false:=(bs_eq [105,110,115,116,114] [97,98,115]).trans rfl
 have f1:(n_instr.toList == n_sign.toList)=false:=(bs_eq [105,110,115,116,114] [115,105,103,110]).trans rfl
 have f2:(n_instr.toList == n_length.toList)=false:=(bs_eq [105,110,115,116,114] [108,101,110,103,116,104]).trans rfl
 have f3:(n_instr.toList == n_lower.toList)=false:=(bs_eq [105,110,115,116,114] [108,111,119,101,114]).trans rfl
 have f4:(n_instr.toList == n_upper.toList)=false:=(bs_eq [105,110,115,116,114] [117,112,112,101,114]).trans rfl
 have f5:(n_instr.toList == n_trim.toList)=false:=(bs_eq [105,110,115,116,114] [116,114,105,109]).trans rfl
 have f6:(n_instr.toList == n_substr.toList)=false:=(bs_eq [105,110,115,116,114] [115,117,98,115,116,114]).trans rfl
 have f7:(n_instr.toList == n_instr.toList)=true:=beq_self_eq_true _
 have g0:(0:Int) < ((2:Nat):Int):=by decide
 have g1:(1:Int) < ((2:Nat):Int):=by decide
 have hp:=r03_at x.s y.s hs hy
 have b1:=Lib.index_ge x.s.data.toList y.s.data.toList
 have b2:=Lib.index_le x.s.data.toList y.s.data.toList
 have hsz:x.s.data.toList.length=x.s.size:=rfl
 have hw:IntKind.wrap .i64 (Lib.indexB x.s y.s + 1)=Lib.indexB x.s y.s + 1:=wrap_id (by unfold Lib.indexB;omega) (by unfold Lib.indexB;omega)
 have e:unG (Go.Proofs.YtifdakibkadfiaaGreatDoor.instrS (toG x) (toG y))=(⟨2,Lib.indexB x.s y.s + 1,⟨#[]⟩⟩,0):=rfl
 rw [e]
 have hI:=ref_Int1 (Lib.indexB x.s y.s + 1)
 generalize Lib.indexB x.s y.s=m at hp hw hI
 refine Good.of_vmQ TT 4000 Tryz.func114 rfl rfl ?_
 unfold Tryz.f114
 simp only [go_sem,g0,g1,f0,f1,f2,f3,f4,f5,f6,f7,go_sem_proc]
 refine Dr.ofC TT (by kernel_rfl) [(170,[cS x.s,cS y.s,cI 0],cI m),(36,[cI (m + 1)],(Val.mk 2 (m + 1) ⟨#[]⟩).av)] ⟨⟨hp,rfl⟩,⟨hI,rfl⟩,trivial⟩ ?_
 simp only [go_sem,g0,g1,hw,go_sem_proc]
 refine DEnd.of TT 4000 (memOK_of2 (by kernel_rfl)) ?_
 simp only [go_sem,go_sem_proc]
 exact Le.refl _
theorem replace_eq (s t u:ByteArray):unG (Go.Proofs.YtifdakibkadfiaaGreatDoor.replaceS s t u)=if (rplS s t u).2=0 then (⟨3,0,(rplS s t u).1⟩,0) else (zeroV,(rplS s t u).2):=by
 unfold Go.Proofs.YtifdakibkadfiaaGreatDoor.replaceS rplS
 by_cases h0:t.data.toList=[]
 ·rw [if_pos (by rw [Go.ByteArray.toList_eq];exact h0),if_pos h0];rfl
 ·have h0':¬ t.toList=[]:=by rw [Go.ByteArray.toList_eq];exact h0
  rw [if_neg h0',if_neg h0]
  have hl:=Go.Proofs.YtifdakibkadfiaaGreatDoor.replaceAll_len s t u h0'
  rw [Lib.size_mk,replaceAll_rpl _ _ _ h0] at hl
  rw [replaceAll_rpl _ _ _ h0]
  by_cases hb:(rplL t.data.toList u.data.toList s.data.toList).length > 100000
  ·rw [if_pos (by omega),if_pos hb];rfl
  ·rw [if_neg (by omega),if_neg hb];rfl
theorem call_replace (x y z:Val) (hs:x.s.size ≤ 10000000) (hy:y.s.size ≤ 10000000) (hz:z.s.size ≤ 10000000):Good Tryz.prog 114 [cS n_replace,.c (rowC [x,y,z])] [] (vals (unG (Go.Proofs.YtifdakibkadfiaaGreatDoor.replaceS x.s y.s z.s)).1 (unG (Go.Proofs.YtifdakibkadfiaaGreatDoor.replaceS x.s y.s z.s)).2) []:=by
 have gl:(0:Int) < ((1:Nat):Int):=by decide
 have f0:(n_replace.toList == n_abs.toList)=false:=(bs_eq [114,101,112,108,97,99,101] [97,98,115]).trans rfl
 have f1:(n_replace.toList == n_sign.toList)=false:=(bs_eq [114,101,112,108,97,99,101] [115,105,103,110]).trans rfl
 have f2:(n_replace.toList == n_length.toList)=false:=(bs_eq [114,101,112,108,97,99,101] [108,101,110,103,116,104]).trans rfl
 have f3:(n_replace.toList == n_lower.toList)=false:=(bs_eq [114,101,112,108,97,99,101] [108,111,119,101,114]).trans rfl
 have f4:(n_replace.toList == n_upper.toList)=false:=(bs_eq [114,101,112,108,97,99,101] [117,112,112,101,114]).trans rfl
 have f5:(n_replace.toList == n_trim.toList)=false:=(bs_eq [114,101,112,108,97,99,101] [116,114,105,109]).trans rfl
 have f6:(n_replace.toList == n_substr.toList)=false:=(bs_eq [114,101,112,108,97,99,101] [115,117,98,115,116,114]).trans rfl
 have f7:(n_replace.toList == n_instr.toList)=false:=(bs_eq [114,101,112,108,97,99,101] [105,110,115,116,114]).trans rfl
 have g2:(2:Int) < ((3:Nat):Int):=by decide
 have g0:(0:Int) < ((3:Nat):Int):=by decide
 have g1:(1:Int) < ((3:Nat):Int):=by decide
 have hp:=r03_replace x.s y.s z.s hs hy hz
 rw [replace_eq]
 generalize rplS x.s y.s z.s=q at hp
 obtain ⟨o,e⟩:=q
 refine Good.of_vmQ TT 4000 Tryz.func114 rfl rfl ?_
 unfold Tryz.f114
 simp only [go_sem,g0,g1,g2,f0,f1,f2,f3,f4,f5,f6,f7,go_sem_proc]
 refine Dr.ofC TT (by kernel_rfl) [(171,[cS x.s,cS y.s,cS z.s],.tup [cS o,cI e])] ⟨⟨hp,rfl⟩,trivial⟩ ?_
 simp only [go_sem,g0,g1,g2,go_sem_proc]
 refine DEnd.of TT 4000 (memOK_of2 (by kernel_rfl)) ?_
 by_cases he:e=0
 ·have he':(e != 0)=false:=by simp [he]
  simp only [go_sem,he',he,go_sem_proc]
  refine Cl.pure TT 4000 (ref_Text1 o) rfl rfl ?_
  simp only [go_sem,go_sem_proc]
  exact Le.refl _
 ·have he':(e != 0)=true:=by simp [he]
  simp only [go_sem,he',he,go_sem_proc]
  exact Le.refl _
end Go.Ev
end
