import Derived.Test.YtimjepimjfcalaaGreatDoorMs7
import Derived.Test.YtimjepimjfcalaaGreatDoorMs8
set_option linter.all false
set_option maxRecDepth 100000
set_option maxHeartbeats 8000000
section
open Go Go.Proofs Go.RowKit
namespace Go.Ev
theorem bl_self:∀ l:List UInt8,Op.bytesLess l l=false
 | []=>rfl
 | a :: l=>by simp [Op.bytesLess,bl_self l]
theorem cmp_self (a:Val):a.cmp a=0:=by
 have h1:a.lt a=false:=by simp [Val.lt,bl_self]
 have h2:a.same a=true:=by simp [Val.same]
 unfold Val.cmp
 rw [h1,h2];rfl
theorem cmpRows_self:∀ l:List Val,cmpRows l l=0
 | []=>rfl
 | a :: l=>by rw [cmpRows,cmp_self,if_neg (by simp)];exact cmpRows_self l
theorem sameRow_self (r:List Val):Good Tryz.prog 17 [.c (rowC r),.c (rowC r)] [] (cB true) []:=by
 have h:=ref_CompareRows r r
 rw [cmpRows_self] at h
 refine Good.of_vmQ TT 4000 Tryz.func17 rfl rfl ?_
 unfold Tryz.f17
 simp only [go_sem,go_sem_proc]
 refine Cl.pure TT 4000 h rfl rfl ?_
 simp only [go_sem,go_sem_proc]
 first | done | exact Le.refl _
theorem sameRows_self (l:List (List Val)) (hl:l.length ≤ 100000):Good Tryz.prog 12 [.c (rowsC l),.c (rowsC l)] [] (cB true) []:=by
 refine Good.of_vmQ TT 4000 Tryz.func12 rfl rfl ?_
 unfold Tryz.f12
 simp only [go_sem,rowsC,bne_self_eq_false,go_sem_proc]
 refine Lp.at TT 4000 0 (Nat.le_of_ble_eq_true rfl) [false,false,false,false,true,true,false,false,false,false,false,false,false,true,true,true,true,true,true,true,true,true,true,true,true,true,true] (fun j:Nat=>l.length - j) (fun j=>j ≤ l.length) (fun j=>[(13,cI j)]) (fun _=>[]) (0) (Nat.zero_le _) ?_ ?_
 ·simp only [go_sem,go_sem_proc]
  first | done | rfl
 ·rintro j i1
  rcases Nat.lt_or_ge j l.length with hlt | hge
  ·obtain ⟨x,hx,hm,ht,hd⟩:=getS hlt
   have hw:=wrap_succ (j:=j) (by omega)
   simp only [go_sem,hlt,hx,go_sem_proc]
   refine Dr.of TT (by kernel_rfl) [(17,[.c (rowC x),.c (rowC x)],cB true)] ⟨⟨sameRow_self x,rfl⟩,trivial⟩ ?_
   simp only [go_sem,hlt,hx,go_sem_proc]
   refine DEnd.of TT 4000 (memOK_of2 (by kernel_rfl)) ?_
   simp only [go_sem,hw,go_sem_proc]
   exact ⟨j + 1,by omega,by omega,Fit1.of_eq rfl⟩
  ·have:j=l.length:=by omega
   subst this
   simp only [go_sem,Nat.lt_irrefl,go_sem_proc]
   first | done | exact Le.refl _
def cutF {α:Type} (n:Nat):Nat → List α → List (List α)
 | 0,_=>[]
 | m + 1,l=>if l.length=0 then [] else l.take (min n l.length) :: cutF n m (l.drop (min n l.length))
theorem cutF_more {α:Type} (n:Nat) (hn:1 ≤ n):∀ (m m':Nat) (l:List α),l.length ≤ m → l.length ≤ m' → cutF n m l=cutF n m' l
 | 0,0,_,_,_=>rfl
 | 0,m' + 1,l,h,_=>by rw [cutF,cutF,if_pos (by omega)]
 | m + 1,0,l,_,h=>by rw [cutF,cutF,if_pos (by omega)]
 | m + 1,m' + 1,l,h,h'=>by
  rw [cutF,cutF]
  split
  ·rfl
  ·rw [cutF_more n hn m m' (l.drop (min n l.length)) (by rw [List.length_drop];omega) (by rw [List.length_drop];omega)]
@[go_sem] def rscell (l:List (List Val)):List CV:=[rowsC l]
end Go.Ev
end
section
open Go Go.Proofs Go.RowKit
namespace Go.Ev
structure IsOrd (ks:List Key) (W:Keyed → Prop):Prop where
 anti:∀ p q,W p → W q → (ordF ks p.2 q.2 ≤ 0 ↔ ¬ ordF ks q.2 p.2 < 0) ∧ (0 < ordF ks p.2 q.2 ↔ ordF ks q.2 p.2 < 0)
 trans:∀ p q r,W p → W q → W r → ordF ks p.2 q.2 ≤ 0 → ordF ks q.2 r.2 ≤ 0 → ordF ks p.2 r.2 ≤ 0
theorem posF_zero (ks:List Key) (A:List (List Val)) (b:List Val):∀ k,k ≤ A.length → (∀ a,a ∈ A → ordF ks a b > 0) → posF ks A b k=0
 | 0,_,_=>rfl
 | k + 1,hk,h=>by
  have hm:A.getD k [] ∈ A:=by rw [List.getD_eq_getElem?_getD,List.getElem?_eq_getElem (by omega)];exact List.getElem_mem _
  rw [posF,if_pos (h _ hm)]
  exact posF_zero ks A b k (by omega) h
theorem posF_cons (ks:List Key) (y:List Val) (A:List (List Val)) (b:List Val) (h:¬ ordF ks y b > 0):∀ k,posF ks (y :: A) b (k + 1)=posF ks A b k + 1
 | 0=>if_neg h
 | k + 1=>by
  rw [posF,List.getD_cons_succ]
  rw [show posF ks A b (k + 1)=if ordF ks (A.getD k []) b > 0 then posF ks A b k else k + 1 from rfl]
  split
  ·exact posF_cons ks y A b h k
  ·rfl
theorem insF_front (ks:List Key) (S:List Keyed) (y:Keyed) (h:∀ a,a ∈ S → ordF ks a.2 y.2 > 0):insF ks S y=y :: S:=by
 unfold insF
 rw [posF_zero ks _ _ _ (by simp) (fun a ha=>by obtain ⟨z,hz,rfl⟩:=List.mem_map.1 ha;exact h z hz)]
 simp
theorem insF_cons (ks:List Key) (S:List Keyed) (y b:Keyed) (h:ordF ks y.2 b.2 ≤ 0):insF ks (y :: S) b=y :: insF ks S b:=by
 unfold insF
 rw [List.map_cons,List.length_cons,posF_cons ks _ _ _ (by omega)]
 simp
theorem foldl_cons (ks:List Key) (y:Keyed):∀ (v S:List Keyed),(∀ b,b ∈ v → ordF ks y.2 b.2 ≤ 0) → v.foldl (insF ks) (y :: S)=y :: v.foldl (insF ks) S
 | [],S,_=>rfl
 | b :: v,S,h=>by
  rw [List.foldl_cons,List.foldl_cons,insF_cons ks S y b (h b (List.mem_cons_self ..))]
  exact foldl_cons ks y v _ fun c hc=>h c (List.mem_cons_of_mem _ hc)
theorem sortF_least (ks:List Key) (u v:List Keyed) (y:Keyed) (hu:∀ a,a ∈ u → ordF ks a.2 y.2 > 0) (hv:∀ b,b ∈ v → ordF ks y.2 b.2 ≤ 0):sortF ks (u ++ y :: v)=y :: sortF ks (u ++ v):=by
 unfold sortF
 rw [List.foldl_append,List.foldl_cons,List.foldl_append,insF_front ks (List.foldl (insF ks) [] u) y (fun a ha=>hu a ((sortF_mem ks u a).1 ha))]
 exact foldl_cons ks y v _ hv
def LInv (ks:List Key) (P:List (List Keyed)) (b:Option (Nat × Keyed)):Prop:=
 (b=none → ∀ h,h ∈ P → h=[]) ∧ ∀ m y,b=some (m,y) → (∃ t,P[m]?=some (y :: t)) ∧ (∀ (i:Nat) a s,i < m → P[i]?=some (a :: s) → ordF ks y.2 a.2 < 0) ∧ (∀ (i:Nat) a s,m < i → P[i]?=some (a :: s) → ordF ks y.2 a.2 ≤ 0)
theorem get_snoc {α:Type} (P:List α) (h x:α) (i:Nat) (hi:(P ++ [h])[i]?=some x):(i < P.length ∧ P[i]?=some x) ∨ (i=P.length ∧ x=h):=by
 rcases Nat.lt_trichotomy i P.length with h1 | h1 | h1
 ·rw [List.getElem?_append_left h1] at hi;exact .inl ⟨h1,hi⟩
 ·rw [List.getElem?_append_right (by omega),h1,Nat.sub_self] at hi
  exact .inr ⟨h1,by simpa using hi.symm⟩
 ·have:=(List.getElem?_eq_some_iff.1 hi).1
  simp at this;omega
theorem leastF_spec (ks:List Key) (W:Keyed → Prop) (O:IsOrd ks W):∀ (H P:List (List Keyed)) (b:Option (Nat × Keyed)),(∀ h,h ∈ P ++ H → ∀ q,q ∈ h → W q) → LInv ks P b → LInv ks (P ++ H) (leastF ks H P.length b)
 | [],P,b,_,h=>by rw [List.append_nil];exact h
 | [] :: H,P,b,hw,h=>by
  have:=leastF_spec ks W O H (P ++ [[]]) b (by simpa using hw) ⟨fun hb k hk=>by
   rcases List.mem_append.1 hk with h1 | h1
   ·exact h.1 hb k h1
   ·exact List.mem_singleton.1 h1,fun m y hb=>by
   obtain ⟨⟨t,h1⟩,h2,h3⟩:=h.2 m y hb
   refine ⟨⟨t,by rw [List.getElem?_append_left (List.getElem?_eq_some_iff.1 h1).1];exact h1⟩,fun i a s hi hg=>?_,fun i a s hi hg=>?_⟩
   ·rcases get_snoc P _ _ i hg with ⟨_,h4⟩ | ⟨_,h4⟩
    ·exact h2 i a s hi h4
    ·cases h4
   ·rcases get_snoc P _ _ i hg with ⟨_,h4⟩ | ⟨_,h4⟩
    ·exact h3 i a s hi h4
    ·cases h4⟩
  rw [leastF]
  simpa using this
 | (x :: s) :: H,P,none,hw,h=>by
  have:=leastF_spec ks W O H (P ++ [x :: s]) (some (P.length,x)) (by simpa using hw) ⟨(fun hb=>nomatch hb),fun m y hb=>by
   cases hb
   refine ⟨⟨s,by simp⟩,fun i a s' hi hg=>?_,fun i a s' hi hg=>?_⟩
   ·rcases get_snoc P _ _ i hg with ⟨_,h4⟩ | ⟨h5,h4⟩
    ·exact absurd (h.1 rfl _ (List.mem_of_getElem? h4)) (by simp)
    ·omega
   ·rcases get_snoc P _ _ i hg with ⟨h5,h4⟩ | ⟨h5,h4⟩ <;> omega⟩
  rw [leastF]
  simpa using this
 | (x :: s) :: H,P,some (m,y),hw,h=>by
  obtain ⟨⟨t,h1⟩,h2,h3⟩:=h.2 m y rfl
  have hml:=(List.getElem?_eq_some_iff.1 h1).1
  have wx:W x:=hw (x :: s) (by simp) x (List.mem_cons_self ..)
  have wy:W y:=hw (y :: t) (List.mem_append_left _ (List.mem_of_getElem? h1)) y (List.mem_cons_self ..)
  have wa:∀ (i:Nat) a s',P[i]?=some (a :: s') → W a:=fun i a s' hg=>hw _ (List.mem_append_left _ (List.mem_of_getElem? hg)) a (List.mem_cons_self ..)
  rw [leastF]
  by_cases ho:ordF ks x.2 y.2 < 0
  ·rw [if_pos ho]
   have lt:∀ a,W a → ordF ks y.2 a.2 ≤ 0 → ordF ks x.2 a.2 < 0:=fun a wa hya=>by
    have h5:=(O.anti a x wa wx).1
    refine Decidable.byContradiction fun hc=>?_
    have h6:=O.trans y a x wy wa wx hya (h5.2 hc)
    have h7:=(O.anti y x wy wx).1.1 h6
    exact h7 ho
   have:=leastF_spec ks W O H (P ++ [x :: s]) (some (P.length,x)) (by simpa using hw) ⟨(fun hb=>nomatch hb),fun m' y' hb=>by
    cases hb
    refine ⟨⟨s,by simp⟩,fun i a s' hi hg=>?_,fun i a s' hi hg=>?_⟩
    ·rcases get_snoc P _ _ i hg with ⟨_,h4⟩ | ⟨h5,h4⟩
     ·refine lt a (wa i a s' h4) ?_
      rcases Nat.lt_trichotomy i m with g | g | g
      ·exact Int.le_of_lt (h2 i a s' g h4)
      ·subst g
       rw [h1] at h4
       cases h4
       have:=(O.anti y y wy wy).1
       have h9:=O.anti y y wy wy
       omega
      ·exact h3 i a s' g h4
     ·omega
    ·rcases get_snoc P _ _ i hg with ⟨h5,h4⟩ | ⟨h5,h4⟩ <;> omega⟩
   simpa using this
  ·rw [if_neg ho]
   have hyx:ordF ks y.2 x.2 ≤ 0:=(O.anti y x wy wx).1.2 ho
   have:=leastF_spec ks W O H (P ++ [x :: s]) (some (m,y)) (by simpa using hw) ⟨(fun hb=>nomatch hb),fun m' y' hb=>by
    cases hb
    refine ⟨⟨t,by rw [List.getElem?_append_left hml];exact h1⟩,fun i a s' hi hg=>?_,fun i a s' hi hg=>?_⟩
    ·rcases get_snoc P _ _ i hg with ⟨_,h4⟩ | ⟨h5,h4⟩
     ·exact h2 i a s' hi h4
     ·omega
    ·rcases get_snoc P _ _ i hg with ⟨_,h4⟩ | ⟨h5,h4⟩
     ·exact h3 i a s' hi h4
     ·cases h4;exact hyx⟩
   simpa using this
def Srt (ks:List Key) (h:List Keyed):Prop:=h.Pairwise fun a b=>ordF ks a.2 b.2 ≤ 0
theorem tot_flatten (H:List (List Keyed)):tot H=H.flatten.length:=by rw [List.length_flatten];rfl
theorem ord_refl {ks:List Key} {W:Keyed → Prop} (O:IsOrd ks W) {y:Keyed} (wy:W y):ordF ks y.2 y.2 ≤ 0:=by
 have h9:=O.anti y y wy wy
 omega
theorem merge_sort (ks:List Key) (W:Keyed → Prop) (O:IsOrd ks W):∀ (n:Nat) (H:List (List Keyed)),tot H=n → (∀ h,h ∈ H → ∀ q,q ∈ h → W q) → (∀ h,h ∈ H → Srt ks h) → mergeF ks n H=sortF ks H.flatten
 | 0,H,hn,_,_=>by
  rw [tot_flatten] at hn
  rw [List.eq_nil_of_length_eq_zero hn];rfl
 | n + 1,H,hn,hw,hs=>by
  have sp:=leastF_spec ks W O H [] none (by simpa using hw) ⟨fun _ h hh=>by simp at hh,fun m y hb=>nomatch hb⟩
  rw [List.nil_append] at sp
  rw [mergeF]
  cases hb:leastF ks H 0 none with
  | none =>
   have h0:=sp.1 hb
   have:H.flatten=[]:=List.flatten_eq_nil_iff.2 h0
   rw [tot_flatten,this] at hn
   simp at hn
  | some p =>
   obtain ⟨m,y⟩:=p
   obtain ⟨⟨t,h1⟩,h2,h3⟩:=sp.2 m y hb
   have hml:=(List.getElem?_eq_some_iff.1 h1).1
   have hH:H=H.take m ++ (y :: t) :: H.drop (m + 1):=by
    have:=(List.getElem?_eq_some_iff.1 h1).2
    rw [← this,List.getElem_cons_drop,List.take_append_drop]
   have hset:H.set m t=H.take m ++ t :: H.drop (m + 1):=by rw [List.set_eq_take_append_cons_drop,if_pos hml]
   have hgd:(H.getD m []).drop 1=t:=by rw [List.getD_eq_getElem?_getD,h1];rfl
   have hyt:(y :: t) ∈ H:=List.mem_of_getElem? h1
   have wy:W y:=hw _ hyt y (List.mem_cons_self ..)
   have hts:=tot_set H m y t h1
   have sub:∀ (c:Keyed) (s:List Keyed) (a:Keyed),(c :: s) ∈ H → a ∈ c :: s → W c ∧ W a ∧ ordF ks c.2 a.2 ≤ 0:=fun c s a hm ha=>by
    have wc:=hw _ hm c (List.mem_cons_self ..)
    refine ⟨wc,hw _ hm a ha,?_⟩
    rcases List.mem_cons.1 ha with h | h
    ·subst h;exact ord_refl O wc
    ·exact (List.pairwise_cons.1 (hs _ hm)).1 a h
   have hu:∀ a,a ∈ (H.take m).flatten → ordF ks a.2 y.2 > 0:=fun a ha=>by
    obtain ⟨h,hh,hah⟩:=List.mem_flatten.1 ha
    obtain ⟨i,hi,hie⟩:=List.getElem_of_mem hh
    have him:i < m:=by rw [List.length_take] at hi;omega
    have hg:H[i]?=some h:=by rw [List.getElem_take] at hie;exact List.getElem?_eq_some_iff.2 ⟨by omega,hie⟩
    cases h with
    | nil=>simp at hah
    | cons c s =>
     obtain ⟨wc,wa,hca⟩:=sub c s a (List.mem_of_getElem? hg) hah
     have h4:=h2 i c s him hg
     refine (O.anti a y wa wy).2.2 (Decidable.byContradiction fun hc=>?_)
     have h5:=(O.anti a y wa wy).1.2 hc
     have h6:=O.trans c a y wc wa wy hca h5
     exact (O.anti c y wc wy).1.1 h6 h4
   have hv:∀ b,b ∈ t ++ (H.drop (m + 1)).flatten → ordF ks y.2 b.2 ≤ 0:=fun b hbm=>by
    rcases List.mem_append.1 hbm with h | h
    ·exact (sub y t b hyt (List.mem_cons_of_mem _ h)).2.2
    ·obtain ⟨h',hh,hah⟩:=List.mem_flatten.1 h
     obtain ⟨i,hi,hie⟩:=List.getElem_of_mem hh
     rw [List.length_drop] at hi
     have hg:H[m + 1 + i]?=some h':=by rw [List.getElem_drop] at hie;exact List.getElem?_eq_some_iff.2 ⟨by omega,hie⟩
     cases h' with
     | nil=>simp at hah
     | cons c s =>
      obtain ⟨wc,wb,hcb⟩:=sub c s b (List.mem_of_getElem? hg) hah
      exact O.trans y c b wy wc wb (h3 _ c s (by omega) hg) hcb
   simp only [hgd]
   rw [merge_sort ks W O n (H.set m t) (by omega) (fun h hh q hq=>?_) (fun h hh=>?_),hset]
   ·conv=>rhs;rw [hH]
    rw [List.flatten_append,List.flatten_append,List.flatten_cons,List.flatten_cons,List.cons_append,sortF_least ks _ _ y hu hv]
   ·rcases List.mem_or_eq_of_mem_set hh with h5 | h5
    ·exact hw h h5 q hq
    ·subst h5;exact hw _ hyt q (List.mem_cons_of_mem _ hq)
   ·rcases List.mem_or_eq_of_mem_set hh with h5 | h5
    ·exact hs h h5
    ·subst h5;exact (List.pairwise_cons.1 (hs _ hyt)).2
end Go.Ev
end
section
open Go Go.Proofs Go.RowKit
namespace Go.Ev
theorem posF_spec (ks:List Key) (A:List (List Val)) (b:List Val):∀ k,(∀ i,posF ks A b k ≤ i → i < k → ordF ks (A.getD i []) b > 0) ∧ (∀ i,posF ks A b k=i + 1 → ordF ks (A.getD i []) b ≤ 0)
 | 0=>⟨fun i _ h=>absurd h (Nat.not_lt_zero _),fun i h=>nomatch h⟩
 | k + 1=>by
  rw [posF]
  obtain ⟨h1,h2⟩:=posF_spec ks A b k
  split
  ·refine ⟨fun i hi hk=>?_,h2⟩
   rcases Nat.lt_or_ge i k with h | h
   ·exact h1 i hi h
   ·obtain rfl:i=k:=by omega
    assumption
  ·refine ⟨fun i hi hk=>absurd hk (by omega),fun i hi=>?_⟩
   obtain rfl:i=k:=by omega
   omega
theorem insF_srt (ks:List Key) (W:Keyed → Prop) (O:IsOrd ks W) (S:List Keyed) (b:Keyed) (hS:Srt ks S) (hw:∀ q,q ∈ S → W q) (wb:W b):Srt ks (insF ks S b):=by
 obtain ⟨h1,h2⟩:=posF_spec ks (S.map Prod.snd) b.2 S.length
 have hle:=posF_le ks (S.map Prod.snd) b.2 S.length
 unfold insF
 generalize posF ks (S.map Prod.snd) b.2 S.length=p at *
 have hgd:∀ (i:Nat) (q:Keyed),S[i]?=some q → (S.map Prod.snd).getD i []=q.2:=fun i q hq=>by rw [List.getD_eq_getElem?_getD,List.getElem?_map,hq];rfl
 have hS2:(S.take p ++ S.drop p).Pairwise fun a b=>ordF ks a.2 b.2 ≤ 0:=by rw [List.take_append_drop];exact hS
 obtain ⟨s1,s2,s3⟩:=List.pairwise_append.1 hS2
 have hd:∀ c,c ∈ S.drop p → ordF ks b.2 c.2 ≤ 0:=fun c hc=>by
  obtain ⟨i,hi,hie⟩:=List.getElem_of_mem hc
  rw [List.length_drop] at hi
  have hg:S[p + i]?=some c:=by rw [List.getElem_drop] at hie;exact List.getElem?_eq_some_iff.2 ⟨by omega,hie⟩
  have:=h1 (p + i) (by omega) (by omega)
  rw [hgd _ _ hg] at this
  exact Int.le_of_lt ((O.anti c b (hw c (List.mem_of_getElem? hg)) wb).2.1 this)
 have ht:∀ c,c ∈ S.take p → ordF ks c.2 b.2 ≤ 0:=fun c hc=>by
  cases p with
  | zero=>simp at hc
  | succ k =>
   obtain ⟨e,he⟩:∃ e,S[k]?=some e:=⟨S[k],List.getElem?_eq_getElem (by omega)⟩
   have heb:=h2 k rfl
   rw [hgd _ _ he] at heb
   have wc:=hw c (List.mem_of_mem_take hc)
   have we:=hw e (List.mem_of_getElem? he)
   refine O.trans c e b wc we wb ?_ heb
   have htk:S.take (k + 1)=S.take k ++ [e]:=by rw [List.take_succ,he];rfl
   rw [htk] at hc s1
   rcases List.mem_append.1 hc with h | h
   ·exact (List.pairwise_append.1 s1).2.2 c h e (by simp)
   ·rw [List.mem_singleton.1 h];exact ord_refl O we
 show List.Pairwise _ _
 rw [List.append_assoc,List.pairwise_append]
 refine ⟨s1,List.pairwise_append.2 ⟨List.pairwise_singleton _ _,s2,fun a ha c hc=>by rw [List.mem_singleton.1 ha];exact hd c hc⟩,fun a ha c hc=>?_⟩
 rcases List.mem_append.1 hc with h | h
 ·rw [List.mem_singleton.1 h];exact ht a ha
 ·exact s3 a ha c h
theorem foldl_srt (ks:List Key) (W:Keyed → Prop) (O:IsOrd ks W):∀ (l S:List Keyed),Srt ks S → (∀ q,q ∈ S → W q) → (∀ q,q ∈ l → W q) → Srt ks (l.foldl (insF ks) S)
 | [],S,h,_,_=>h
 | b :: l,S,h,hw,hl=>by
  rw [List.foldl_cons]
  exact foldl_srt ks W O l _ (insF_srt ks W O S b h hw (hl b (List.mem_cons_self ..))) (fun q hq=>((insF_mem ks S b q).1 hq).elim (fun e=>e ▸ hl b (List.mem_cons_self ..)) (hw q)) (fun q hq=>hl q (List.mem_cons_of_mem _ hq))
theorem sortF_srt (ks:List Key) (W:Keyed → Prop) (O:IsOrd ks W) (l:List Keyed) (hl:∀ q,q ∈ l → W q):Srt ks (sortF ks l):=foldl_srt ks W O l [] List.Pairwise.nil (fun q hq=>by simp at hq) hl
theorem bl_trans:∀ x y z:List UInt8,Op.bytesLess x y=true → Op.bytesLess y z=true → Op.bytesLess x z=true
 | _,[],[],h,_=>by simp [Op.bytesLess] at h
 | _,_ :: _,[],_,h=>by simp [Op.bytesLess] at h
 | [],_,c :: z,_,_=>rfl
 | a :: x,[],c :: z,h,_=>by simp [Op.bytesLess] at h
 | a :: x,b :: y,c :: z,h1,h2=>by
  have ih:=bl_trans x y z
  simp only [Op.bytesLess,Bool.or_eq_true,Bool.and_eq_true,decide_eq_true_eq,beq_iff_eq] at h1 h2 ⊢
  rcases h1 with h1 | ⟨rfl,h1⟩
  ·rcases h2 with h2 | ⟨rfl,_⟩
   ·exact .inl (UInt8.lt_trans h1 h2)
   ·exact .inl h1
  ·rcases h2 with h2 | ⟨rfl,h2⟩
   ·exact .inl h2
   ·exact .inr ⟨rfl,ih h1 h2⟩
theorem bl_tri:∀ x y:List UInt8,Op.bytesLess x y=false → Op.bytesLess y x=false → x=y
 | [],[],_,_=>rfl
 | [],b :: y,h,_=>by simp [Op.bytesLess] at h
 | a :: x,[],_,h=>by simp [Op.bytesLess] at h
 | a :: x,b :: y,h1,h2=>by
  simp only [Op.bytesLess,Bool.or_eq_false_iff,Bool.and_eq_false_iff,decide_eq_false_iff_not,beq_eq_false_iff_ne] at h1 h2
  have hab:a=b:=by
   rcases UInt8.lt_or_lt_of_ne (a:=a) (b:=b) with h
   exact Decidable.byContradiction fun hne=>(h hne).elim h1.1 h2.1
  subst hab
  rw [bl_tri x y (h1.2.resolve_left (by simp)) (h2.2.resolve_left (by simp))]
theorem bl_asymm (x y:List UInt8) (h:Op.bytesLess x y=true):Op.bytesLess y x=false:=by
 cases h2:Op.bytesLess y x with
 | false=>rfl
 | true=>have:=bl_trans x y x h h2;rw [bl_self] at this;cases this
theorem lt_iff (a b:Val):a.lt b=true ↔ a.k < b.k ∨ (a.k=b.k ∧ a.i < b.i) ∨ (a.k=b.k ∧ a.i=b.i ∧ Op.bytesLess a.s.toList b.s.toList=true):=by
 simp only [Val.lt,Bool.or_eq_true,Bool.and_eq_true,decide_eq_true_eq,beq_iff_eq,or_assoc,and_assoc]
theorem same_iff (a b:Val):a.same b=true ↔ a.k=b.k ∧ a.i=b.i ∧ a.s.toList=b.s.toList:=by
 simp only [Val.same,Bool.and_eq_true,beq_iff_eq,and_assoc]
theorem lt_asymm (a b:Val) (h:a.lt b=true):b.lt a=false:=by
 cases h2:b.lt a with
 | false=>rfl
 | true =>
  rw [lt_iff] at h h2
  rcases h with h | ⟨h,h'⟩ | ⟨h,h',h''⟩ <;> rcases h2 with g | ⟨g,g'⟩ | ⟨g,g',g''⟩ <;> first | omega | (rw [bl_asymm _ _ h''] at g'';cases g'')
theorem lt_tri (a b:Val) (h:a.lt b=false) (h2:b.lt a=false):a.same b=true:=by
 have n1:¬ a.lt b=true:=by rw [h];simp
 have n2:¬ b.lt a=true:=by rw [h2];simp
 rw [lt_iff] at n1 n2
 rw [same_iff]
 have e1:a.k=b.k:=by omega
 have e2:a.i=b.i:=by omega
 refine ⟨e1,e2,bl_tri _ _ ?_ ?_⟩
 ·exact Bool.eq_false_iff.2 fun h=>n1 (.inr (.inr ⟨e1,e2,h⟩))
 ·exact Bool.eq_false_iff.2 fun h=>n2 (.inr (.inr ⟨e1.symm,e2.symm,h⟩))
theorem same_lt (a b:Val) (h:a.same b=true):a.lt b=false:=by
 refine Bool.eq_false_iff.2 fun h2=>?_
 rw [lt_iff] at h2
 obtain ⟨e1,e2,e3⟩:=(same_iff a b).1 h
 rcases h2 with g | ⟨g,g'⟩ | ⟨g,g',g''⟩
 ·omega
 ·omega
 ·rw [e3,bl_self] at g'';cases g''
theorem same_symm (a b:Val) (h:a.same b=true):b.same a=true:=by
 obtain ⟨e1,e2,e3⟩:=(same_iff a b).1 h
 exact (same_iff b a).2 ⟨e1.symm,e2.symm,e3.symm⟩
theorem cmp_anti (a b:Val):b.cmp a = - a.cmp b:=by
 unfold Val.cmp
 cases h1:a.lt b with
 | true =>
  have h2:=lt_asymm a b h1
  have h3:b.same a=false:=Bool.eq_false_iff.2 fun h=>by have:=same_lt a b (same_symm _ _ h);rw [h1] at this;cases this
  rw [h2,h3];rfl
 | false =>
  cases h2:b.lt a with
  | true =>
   have h3:a.same b=false:=Bool.eq_false_iff.2 fun h=>by have:=same_lt b a (same_symm _ _ h);rw [h2] at this;cases this
   rw [h3];rfl
  | false =>
   have h3:=lt_tri a b h1 h2
   rw [h3,same_symm _ _ h3];rfl
theorem lt_trans3 (a b c:Val) (h:a.lt b=true) (g:b.lt c=true):a.lt c=true:=by
 rw [lt_iff] at h g ⊢
 rcases h with h | ⟨h,h'⟩ | ⟨h,h',h''⟩ <;> rcases g with g | ⟨g,g'⟩ | ⟨g,g',g''⟩
 ·exact .inl (by omega)
 ·exact .inl (by omega)
 ·exact .inl (by omega)
 ·exact .inl (by omega)
 ·exact .inr (.inl ⟨by omega,by omega⟩)
 ·exact .inr (.inl ⟨by omega,by omega⟩)
 ·exact .inl (by omega)
 ·exact .inr (.inl ⟨by omega,by omega⟩)
 ·exact .inr (.inr ⟨by omega,by omega,bl_trans _ _ _ h'' g''⟩)
theorem cmp_lt (a b:Val):a.cmp b < 0 ↔ a.lt b=true:=by
 unfold Val.cmp
 cases a.lt b <;> cases a.same b <;> simp
theorem cmp_same0 (a b:Val):a.cmp b=0 ↔ a.same b=true:=by
 unfold Val.cmp
 cases h:a.lt b
 ·cases a.same b <;> simp
 ·have h3:a.same b=false:=Bool.eq_false_iff.2 fun h'=>by have:=same_lt a b h';rw [h] at this;cases this
  rw [h3];simp
theorem cmp_congr (a b c:Val) (h:a.cmp b=0):a.cmp c=b.cmp c:=by
 obtain ⟨e1,e2,e3⟩:=(same_iff a b).1 ((cmp_same0 a b).1 h)
 unfold Val.cmp Val.lt Val.same
 rw [e1,e2,e3]
def Tri (x y z:Int):Prop:=(x < 0 → y < 0 → z < 0) ∧ (x > 0 → y > 0 → z > 0) ∧ (x=0 → z=y) ∧ (y=0 → z=x)
theorem cmp_tri (a b c:Val):Tri (a.cmp b) (b.cmp c) (a.cmp c):=by
 refine ⟨fun h g=>?_,fun h g=>?_,fun h=>cmp_congr a b c h,fun h=>?_⟩
 ·rw [cmp_lt] at *;exact lt_trans3 a b c h g
 ·have h1:=cmp_anti a b
  have h2:=cmp_anti b c
  have h3:=cmp_anti a c
  have:=(cmp_lt c a).2 (lt_trans3 c b a ((cmp_lt c b).1 (by omega)) ((cmp_lt b a).1 (by omega)))
  omega
 ·have h1:=cmp_anti a b
  have h2:=cmp_anti b c
  have h3:=cmp_anti a c
  have:=cmp_congr c b a (by omega)
  omega
theorem sgn_tri (d:Bool) {x y z:Int} (h:Tri x y z):Tri (sgn d x) (sgn d y) (sgn d z):=by
 obtain ⟨h1,h2,h3,h4⟩:=h
 cases d
 ·exact ⟨h1,h2,h3,h4⟩
 ·refine ⟨fun a b=>?_,fun a b=>?_,fun a=>?_,fun a=>?_⟩ <;> simp only [sgn,if_true] at * <;> omega
theorem ordF_anti:∀ (ks:List Key) (l m:List Val),ordF ks m l = - ordF ks l m
 | [],l,m=>by rw [ordF,ordF] <;> simp
 | k :: ks,[],m=>by rw [ordF,ordF] <;> simp
 | k :: ks,a :: l,[]=>by rw [ordF,ordF] <;> simp
 | k :: ks,a :: l,b :: m=>by
  have h:=ordF_anti ks l m
  have h1:sgn k.desc (b.cmp a) = - sgn k.desc (a.cmp b):=by rw [cmp_anti a b];unfold sgn;split <;> rfl
  rw [ordF,ordF,h1,h]
  by_cases h0:sgn k.desc (a.cmp b)=0
  ·rw [if_neg (by omega),if_neg (by omega)]
  ·rw [if_pos (by omega),if_pos (by omega)]
theorem ordF_trans:∀ (ks:List Key) (l m n:List Val),l.length=ks.length → m.length=ks.length → n.length=ks.length → ordF ks l m ≤ 0 → ordF ks m n ≤ 0 → ordF ks l n ≤ 0
 | [],l,m,n,_,_,_,_,_=>by rw [ordF] <;> simp
 | k :: ks,a :: l,b :: m,c :: n,h1,h2,h3,g1,g2=>by
  have ih:=ordF_trans ks l m n (by simpa using h1) (by simpa using h2) (by simpa using h3)
  obtain ⟨t1,t2,t3,t4⟩:=sgn_tri k.desc (cmp_tri a b c)
  rw [ordF] at g1 g2 ⊢
  generalize sgn k.desc (a.cmp b)=x at *
  generalize sgn k.desc (b.cmp c)=y at *
  generalize sgn k.desc (a.cmp c)=z at *
  by_cases hx:x=0 <;> by_cases hy:y=0
  ·rw [if_neg (by omega)] at g1 g2
   rw [if_neg (by have:=t3 hx;omega)]
   exact ih g1 g2
  ·rw [if_pos (by omega)] at g2
   have:=t3 hx
   rw [if_pos (by omega)];omega
  ·rw [if_pos (by omega)] at g1
   have:=t4 hy
   rw [if_pos (by omega)];omega
  ·rw [if_pos (by omega)] at g1 g2
   have:=t1 (by omega) (by omega)
   rw [if_pos (by omega)];omega
theorem isOrd (ks:List Key):IsOrd ks (fun p=>p.2.length=ks.length):=⟨fun p q _ _=>by have:=ordF_anti ks p.2 q.2;omega,fun p q r hp hq hr h1 h2=>ordF_trans ks p.2 q.2 r.2 hp hq hr h1 h2⟩
end Go.Ev
end
