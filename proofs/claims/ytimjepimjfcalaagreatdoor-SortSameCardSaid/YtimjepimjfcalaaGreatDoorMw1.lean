import Derived.Test.YtimjepimjfcalaaGreatDoorMs9
import Derived.Test.YtimjepimjfcalaaGreatDoorMs8
import Derived.Test.YtimjepimjfcalaaGreatDoorMs1
set_option linter.all false
set_option maxRecDepth 100000
set_option maxHeartbeats 8000000
section
open Go Go.Proofs Go.RowKit
namespace Go.Ev
def cls (ks:List Key) (v:Keyed) (L:List Keyed):List Keyed:=L.filter fun q=>ordF ks q.2 v.2 == 0
def Eqv (ks:List Key) (W:Keyed→Prop) (L M:List Keyed):Prop:=∀ v,W v→cls ks v L=cls ks v M
theorem Eqv.refl {ks:List Key} {W:Keyed→Prop} (L:List Keyed):Eqv ks W L L:=fun _ _=>rfl
theorem Eqv.symm {ks:List Key} {W:Keyed→Prop} {L M:List Keyed} (h:Eqv ks W L M):Eqv ks W M L:=fun v hv=>(h v hv).symm
theorem Eqv.trans {ks:List Key} {W:Keyed→Prop} {L M N:List Keyed} (h:Eqv ks W L M) (g:Eqv ks W M N):Eqv ks W L N:=fun v hv=>(h v hv).trans (g v hv)
theorem Eqv.app {ks:List Key} {W:Keyed→Prop} {L M L' M':List Keyed} (h:Eqv ks W L L') (g:Eqv ks W M M'):Eqv ks W (L++M) (L'++M'):=fun v hv=>by
 unfold cls
 rw [List.filter_append,List.filter_append]
 exact congr (congrArg _ (h v hv)) (g v hv)
theorem cls_mem {ks:List Key} {v q:Keyed} {L:List Keyed}:q ∈ cls ks v L ↔ q ∈ L∧ordF ks q.2 v.2=0:=by
 unfold cls
 rw [List.mem_filter,beq_iff_eq]
section
variable {ks:List Key} {W:Keyed→Prop} (O:IsOrd ks W)
include O
theorem ord_zero {p:Keyed} (wp:W p):ordF ks p.2 p.2=0:=by
 have h:=O.anti p p wp wp
 omega
theorem ord_flip {p q:Keyed} (wp:W p) (wq:W q) (h:ordF ks p.2 q.2=0):ordF ks q.2 p.2=0:=by
 have h1:=O.anti p q wp wq
 have h2:=O.anti q p wq wp
 omega
theorem ord_join {p v q:Keyed} (wp:W p) (wv:W v) (wq:W q) (h:ordF ks p.2 v.2=0) (g:ordF ks q.2 v.2=0):ordF ks p.2 q.2=0:=by
 have g1:=ord_flip O wq wv g
 have h1:=ord_flip O wp wv h
 have a1:=O.trans p v q wp wv wq (by omega) (by omega)
 have a2:=O.trans q v p wq wv wp (by omega) (by omega)
 have h3:=O.anti p q wp wq
 have h4:=O.anti q p wq wp
 omega
theorem Eqv.swap {u w:List Keyed} (hu:∀ q,q ∈ u→W q) (hw:∀ q,q ∈ w→W q) (h:∀ x,x ∈ u→∀ y,y ∈ w→ordF ks x.2 y.2≠0):Eqv ks W (u++w) (w++u):=fun v hv=>by
 show cls ks v (u++w)=cls ks v (w++u)
 have e1:cls ks v (u++w)=cls ks v u++cls ks v w:=by unfold cls;rw [List.filter_append]
 have e2:cls ks v (w++u)=cls ks v w++cls ks v u:=by unfold cls;rw [List.filter_append]
 rw [e1,e2]
 cases hcu:cls ks v u with
 | nil=>simp
 | cons x s =>
  cases hcw:cls ks v w with
  | nil=>simp
  | cons y t =>
   exfalso
   have hx:x ∈ cls ks v u:=by rw [hcu];exact List.mem_cons_self ..
   have hy:y ∈ cls ks v w:=by rw [hcw];exact List.mem_cons_self ..
   rw [cls_mem] at hx hy
   exact h x hx.1 y hy.1 (ord_join O (hu x hx.1) hv (hw y hy.1) hx.2 hy.2)
theorem eqv_mem {A B:List Keyed} (h:Eqv ks W A B) (hA:∀ q,q ∈ A→W q) {q:Keyed} (hq:q ∈ A):q ∈ B:=by
 have h1:q ∈ cls ks q A:=cls_mem.2 ⟨hq,ord_zero O (hA q hq)⟩
 rw [h q (hA q hq)] at h1
 exact (cls_mem.1 h1).1
theorem srt_unique:∀ (A B:List Keyed),(∀ q,q ∈ A→W q)→(∀ q,q ∈ B→W q)→Srt ks A→Srt ks B→Eqv ks W A B→A=B
 | [],[],_,_,_,_,_=>rfl
 | [],b :: B,_,hB,_,_,h=>absurd (eqv_mem O h.symm hB (List.mem_cons_self ..)) (by simp)
 | a :: A,[],hA,_,_,_,h=>absurd (eqv_mem O h hA (List.mem_cons_self ..)) (by simp)
 | a :: A,b :: B,hA,hB,sA,sB,h=>by
  have wa:=hA a (List.mem_cons_self ..)
  have wb:=hB b (List.mem_cons_self ..)
  have ha:=eqv_mem O h hA (List.mem_cons_self ..)
  have hb:=eqv_mem O h.symm hB (List.mem_cons_self ..)
  have le1:ordF ks a.2 b.2≤0:=by
   rcases List.mem_cons.1 hb with e | e
   ·rw [e];exact ord_refl O wa
   ·exact (List.pairwise_cons.1 sA).1 b e
  have le2:ordF ks b.2 a.2≤0:=by
   rcases List.mem_cons.1 ha with e | e
   ·rw [e];exact ord_refl O wb
   ·exact (List.pairwise_cons.1 sB).1 a e
  have h3:=O.anti a b wa wb
  have h4:=O.anti b a wb wa
  have e0:ordF ks b.2 a.2=0:=by omega
  have hab:a=b:=by
   have:=h a wa
   unfold cls at this
   rw [List.filter_cons_of_pos (by simpa using ord_zero O wa),List.filter_cons_of_pos (by simpa using e0)] at this
   exact (List.cons.inj this).1
  subst hab
  refine congrArg _ (srt_unique A B (fun q hq=>hA q (List.mem_cons_of_mem _ hq)) (fun q hq=>hB q (List.mem_cons_of_mem _ hq)) (List.pairwise_cons.1 sA).2 (List.pairwise_cons.1 sB).2 fun v hv=>?_)
  have:=h v hv
  unfold cls at this ⊢
  by_cases hc:ordF ks a.2 v.2=0
  ·rw [List.filter_cons_of_pos (by simpa using hc),List.filter_cons_of_pos (by simpa using hc)] at this
   exact (List.cons.inj this).2
  ·rw [List.filter_cons_of_neg (by simpa using hc),List.filter_cons_of_neg (by simpa using hc)] at this
   exact this
theorem insF_eqv (S:List Keyed) (p:Keyed) (hS:∀ q,q ∈ S→W q) (wp:W p):Eqv ks W (insF ks S p) (S++[p]):=by
 obtain ⟨h1,_⟩:=posF_spec ks (S.map Prod.snd) p.2 S.length
 unfold insF
 generalize posF ks (S.map Prod.snd) p.2 S.length=k at *
 conv=>rhs;rw [← List.take_append_drop k S]
 rw [List.append_assoc,List.append_assoc]
 refine (Eqv.refl _).app (Eqv.swap O (fun q hq=>by rw [List.mem_singleton.1 hq];exact wp) (fun q hq=>hS q (List.mem_of_mem_drop hq)) fun x hx y hy=>?_)
 rw [List.mem_singleton.1 hx]
 obtain ⟨i,hi,hie⟩:=List.getElem_of_mem hy
 rw [List.length_drop] at hi
 have hg:S[k+i]?=some y:=by rw [List.getElem_drop] at hie;exact List.getElem?_eq_some_iff.2 ⟨by omega,hie⟩
 have:=h1 (k+i) (by omega) (by omega)
 rw [List.getD_eq_getElem?_getD,List.getElem?_map,hg] at this
 simp only [Option.map_some,Option.getD_some] at this
 intro h0
 have:=ord_flip O wp (hS y (List.mem_of_mem_drop hy)) h0
 omega
theorem foldl_eqv:∀ (l S:List Keyed),(∀ q,q ∈ S→W q)→(∀ q,q ∈ l→W q)→Eqv ks W (l.foldl (insF ks) S) (S++l)
 | [],S,_,_=>by rw [List.append_nil];exact Eqv.refl _
 | p :: l,S,hS,hl=>by
  have wp:=hl p (List.mem_cons_self ..)
  rw [List.foldl_cons]
  refine (foldl_eqv l _ (fun q hq=>((insF_mem ks S p q).1 hq).elim (fun e=>e ▸ wp) (hS q)) (fun q hq=>hl q (List.mem_cons_of_mem _ hq))).trans ?_
  have:=(insF_eqv O S p hS wp).app (Eqv.refl (ks:=ks) (W:=W) l)
  rwa [List.append_assoc] at this
theorem sortF_eqv (L:List Keyed) (hL:∀ q,q ∈ L→W q):Eqv ks W (sortF ks L) L:=foldl_eqv O L [] (fun q hq=>by simp at hq) hL
theorem sortF_of {A L:List Keyed} (hA:∀ q,q ∈ A→W q) (hL:∀ q,q ∈ L→W q) (sA:Srt ks A) (h:Eqv ks W A L):A=sortF ks L:=
 srt_unique O A _ hA (fun q hq=>hL q ((sortF_mem ks L q).1 hq)) sA (sortF_srt ks W O L hL) (h.trans (sortF_eqv O L hL).symm)
theorem sortF_id {A:List Keyed} (hA:∀ q,q ∈ A→W q) (sA:Srt ks A):sortF ks A=A:=(sortF_of O hA hA sA (Eqv.refl _)).symm
theorem sortF_congr {A B:List Keyed} (hA:∀ q,q ∈ A→W q) (hB:∀ q,q ∈ B→W q) (h:Eqv ks W A B):sortF ks A=sortF ks B:=
 sortF_of O (fun q hq=>hA q ((sortF_mem ks A q).1 hq)) hB (sortF_srt ks W O A hA) ((sortF_eqv O A hA).trans h)
theorem sortF_parts {u v:List Keyed} (hu:∀ q,q ∈ u→W q) (hv:∀ q,q ∈ v→W q):sortF ks (sortF ks u++sortF ks v)=sortF ks (u++v):=by
 refine sortF_congr O (fun q hq=>?_) (fun q hq=>?_) ((sortF_eqv O u hu).app (sortF_eqv O v hv))
 ·rcases List.mem_append.1 hq with h | h
  ·exact hu q ((sortF_mem ks u q).1 h)
  ·exact hv q ((sortF_mem ks v q).1 h)
 ·rcases List.mem_append.1 hq with h | h
  ·exact hu q h
  ·exact hv q h
theorem sym_merge {A1 A2 B1 B2:List Keyed} (h1:∀ q,q ∈ A1→W q) (h2:∀ q,q ∈ A2→W q) (h3:∀ q,q ∈ B1→W q) (h4:∀ q,q ∈ B2→W q)
  (sA:Srt ks (A1++A2)) (sB:Srt ks (B1++B2)) (hlt:∀ y,y ∈ B1→∀ x,x ∈ A2→ordF ks y.2 x.2<0) (hle:∀ x,x ∈ A1→∀ y,y ∈ B2→ordF ks x.2 y.2≤0) :
  sortF ks (A1++B1)++sortF ks (A2++B2)=sortF ks (A1++A2++(B1++B2)):=by
 have m2:∀ {u v:List Keyed},(∀ q,q ∈ u→W q)→(∀ q,q ∈ v→W q)→∀ q,q ∈ u++v→W q:=fun a b q hq=>(List.mem_append.1 hq).elim (a q) (b q)
 have ms:∀ {u:List Keyed},(∀ q,q ∈ u→W q)→∀ q,q ∈ sortF ks u→W q:=fun a q hq=>a q ((sortF_mem ks _ q).1 hq)
 refine sortF_of O (m2 (ms (m2 h1 h3)) (ms (m2 h2 h4))) (m2 (m2 h1 h2) (m2 h3 h4)) ?_ ?_
 ·obtain ⟨_,_,a3⟩:=List.pairwise_append.1 sA
  obtain ⟨_,_,b3⟩:=List.pairwise_append.1 sB
  refine List.pairwise_append.2 ⟨sortF_srt ks W O _ (m2 h1 h3),sortF_srt ks W O _ (m2 h2 h4),fun a ha b hb=>?_⟩
  rw [sortF_mem] at ha hb
  rcases List.mem_append.1 ha with ha | ha <;> rcases List.mem_append.1 hb with hb | hb
  ·exact a3 a ha b hb
  ·exact hle a ha b hb
  ·exact Int.le_of_lt (hlt a ha b hb)
  ·exact b3 a ha b hb
 ·refine ((sortF_eqv O _ (m2 h1 h3)).app (sortF_eqv O _ (m2 h2 h4))).trans ?_
  rw [List.append_assoc,List.append_assoc]
  refine (Eqv.refl A1).app ?_
  rw [← List.append_assoc,← List.append_assoc]
  refine (Eqv.swap O h3 h2 fun y hy x hx=>by have:=hlt y hy x hx;omega).app (Eqv.refl B2)
theorem lt_le {p q r:Keyed} (wp:W p) (wq:W q) (wr:W r) (h:ordF ks p.2 q.2<0) (g:ordF ks q.2 r.2≤0):ordF ks p.2 r.2<0:=
 Decidable.byContradiction fun hc=>(O.anti q p wq wp).1.1 (O.trans q r p wq wr wp g ((O.anti r p wr wp).1.2 hc)) h
theorem le_lt {p q r:Keyed} (wp:W p) (wq:W q) (wr:W r) (h:ordF ks p.2 q.2≤0) (g:ordF ks q.2 r.2<0):ordF ks p.2 r.2<0:=
 Decidable.byContradiction fun hc=>(O.anti r q wr wq).1.1 (O.trans r p q wr wp wq ((O.anti r p wr wp).1.2 hc) h) g
theorem srt_le {X:List Keyed} {i j:Nat} {p q:Keyed} (hX:∀ q,q ∈ X→W q) (sX:Srt ks X) (hij:i≤j) (hp:X[i]?=some p) (hq:X[j]?=some q):ordF ks p.2 q.2≤0:=by
 rcases Nat.lt_or_ge i j with h | h
 ·obtain ⟨a1,a2⟩:=List.getElem?_eq_some_iff.1 hp
  obtain ⟨b1,b2⟩:=List.getElem?_eq_some_iff.1 hq
  rw [← a2,← b2]
  exact List.pairwise_iff_getElem.1 sX i j a1 b1 h
 ·obtain rfl:i=j:=by omega
  rw [hp] at hq
  cases hq
  exact ord_refl O (hX p (List.mem_of_getElem? hp))
theorem sym_split {L M:List Keyed} {u s s0 r0:Nat} (hL:∀ q,q ∈ L→W q) (hM:∀ q,q ∈ M→W q) (sL:Srt ks L) (sM:Srt ks M) (hs0:s0≤s) (hr0:s≤r0) (hru:r0≤u) (hrl:r0≤L.length) (hend:r0=u∨r0=L.length) (hbeg:s0=0∨s0+M.length=u)
  (h1:∀ t,s0≤t→t<s→∀ x y,L[t]?=some x→M[u-1-t]?=some y→¬ ordF ks y.2 x.2<0) (h2:∀ t,s≤t→t<r0→∀ x y,L[t]?=some x→M[u-1-t]?=some y→ordF ks y.2 x.2<0) (hw:u≤s0+M.length) :
  sortF ks (L.take s++M.take (u-s))++sortF ks (L.drop s++M.drop (u-s))=sortF ks (L++M):=by
 have tk:∀ {X:List Keyed} {n:Nat},(∀ q,q ∈ X→W q)→∀ q,q ∈ X.take n→W q:=fun h q hq=>h q (List.mem_of_mem_take hq)
 have dk:∀ {X:List Keyed} {n:Nat},(∀ q,q ∈ X→W q)→∀ q,q ∈ X.drop n→W q:=fun h q hq=>h q (List.mem_of_mem_drop hq)
 have le:∀ {X:List Keyed} (i j:Nat) (p q:Keyed),(∀ q,q ∈ X→W q)→Srt ks X→i≤j→X[i]?=some p→X[j]?=some q→ordF ks p.2 q.2≤0:=fun {X} i j p q hX sX hij hp hq=>by
  rcases Nat.lt_or_ge i j with h | h
  ·obtain ⟨a1,a2⟩:=List.getElem?_eq_some_iff.1 hp
   obtain ⟨b1,b2⟩:=List.getElem?_eq_some_iff.1 hq
   rw [← a2,← b2]
   exact List.pairwise_iff_getElem.1 sX i j a1 b1 h
  ·obtain rfl:i=j:=by omega
   rw [hp] at hq
   cases hq
   exact ord_refl O (hX p (List.mem_of_getElem? hp))
 have:=sym_merge O (tk hL (n:=s)) (dk hL (n:=s)) (tk hM (n:=u-s)) (dk hM (n:=u-s)) (by rw [List.take_append_drop];exact sL) (by rw [List.take_append_drop];exact sM) (fun y hy x hx=>?_) (fun x hx y hy=>?_)
 ·rwa [List.take_append_drop,List.take_append_drop] at this
 ·obtain ⟨i,hi,hie⟩:=List.getElem_of_mem hy
  obtain ⟨j,hj,hje⟩:=List.getElem_of_mem hx
  rw [List.length_take] at hi
  rw [List.length_drop] at hj
  rw [List.getElem_take] at hie
  rw [List.getElem_drop] at hje
  have hy1:M[i]?=some y:=List.getElem?_eq_some_iff.2 ⟨by omega,hie⟩
  have hx1:L[s+j]?=some x:=List.getElem?_eq_some_iff.2 ⟨by omega,hje⟩
  have hsr:s<r0:=by
   rcases hend with h | h <;> omega
  obtain ⟨x0,hx0⟩:∃ x0,L[s]?=some x0:=⟨L[s],List.getElem?_eq_getElem (by omega)⟩
  obtain ⟨y0,hy0⟩:∃ y0,M[u-1-s]?=some y0:=⟨M[u-1-s],List.getElem?_eq_getElem (by omega)⟩
  have c0:=h2 s (Nat.le_refl _) hsr x0 y0 hx0 hy0
  have c1:=le i (u-1-s) y y0 hM sM (by omega) hy1 hy0
  have c2:=le s (s+j) x0 x hL sL (by omega) hx0 hx1
  have wx:=hL x (List.mem_of_getElem? hx1)
  have wx0:=hL x0 (List.mem_of_getElem? hx0)
  have wy:=hM y (List.mem_of_getElem? hy1)
  have wy0:=hM y0 (List.mem_of_getElem? hy0)
  refine Decidable.byContradiction fun hc=>?_
  have d1:=(O.anti x y wx wy).1.2 hc
  have d2:=O.trans x0 x y wx0 wx wy c2 d1
  have d3:=O.trans x0 y y0 wx0 wy wy0 d2 c1
  exact (O.anti x0 y0 wx0 wy0).1.1 d3 c0
 ·obtain ⟨i,hi,hie⟩:=List.getElem_of_mem hx
  obtain ⟨j,hj,hje⟩:=List.getElem_of_mem hy
  rw [List.length_take] at hi
  rw [List.length_drop] at hj
  rw [List.getElem_take] at hie
  rw [List.getElem_drop] at hje
  have hx1:L[i]?=some x:=List.getElem?_eq_some_iff.2 ⟨by omega,hie⟩
  have hy1:M[u-s+j]?=some y:=List.getElem?_eq_some_iff.2 ⟨by omega,hje⟩
  have hss:s0<s:=by
   rcases hbeg with h | h <;> omega
  obtain ⟨x0,hx0⟩:∃ x0,L[s-1]?=some x0:=⟨L[s-1],List.getElem?_eq_getElem (by omega)⟩
  obtain ⟨y0,hy0⟩:∃ y0,M[u-1-(s-1)]?=some y0:=⟨M[u-1-(s-1)],List.getElem?_eq_getElem (by omega)⟩
  have c0:=h1 (s-1) (by omega) (by omega) x0 y0 hx0 hy0
  have c1:=le i (s-1) x x0 hL sL (by omega) hx1 hx0
  have c2:=le (u-1-(s-1)) (u-s+j) y0 y hM sM (by omega) hy0 hy1
  have wx:=hL x (List.mem_of_getElem? hx1)
  have wx0:=hL x0 (List.mem_of_getElem? hx0)
  have wy:=hM y (List.mem_of_getElem? hy1)
  have wy0:=hM y0 (List.mem_of_getElem? hy0)
  exact O.trans x x0 y wx wx0 wy c1 (O.trans x0 y0 y wx0 wy0 wy ((O.anti x0 y0 wx0 wy0).1.2 c0) c2)
theorem one_in {x:Keyed} {M:List Keyed} {k:Nat} (wx:W x) (hM:∀ q,q ∈ M→W q) (sM:Srt ks M) (h1:∀ t y,t<k→M[t]?=some y→ordF ks y.2 x.2<0) (h2:∀ t y,k≤t→M[t]?=some y→¬ ordF ks y.2 x.2<0) :
  M.take k++x :: M.drop k=sortF ks (x :: M):=by
 have hd:∀ y,y ∈ M.drop k→ordF ks x.2 y.2≤0:=fun y hy=>by
  obtain ⟨j,hj,hje⟩:=List.getElem_of_mem hy
  rw [List.length_drop] at hj
  rw [List.getElem_drop] at hje
  have hy1:M[k+j]?=some y:=List.getElem?_eq_some_iff.2 ⟨by omega,hje⟩
  exact (O.anti x y wx (hM y (List.mem_of_getElem? hy1))).1.2 (h2 (k+j) y (by omega) hy1)
 have ht:∀ y,y ∈ M.take k→ordF ks y.2 x.2<0:=fun y hy=>by
  obtain ⟨j,hj,hje⟩:=List.getElem_of_mem hy
  rw [List.length_take] at hj
  rw [List.getElem_take] at hje
  exact h1 j y (by omega) (List.getElem?_eq_some_iff.2 ⟨by omega,hje⟩)
 have sM2:Srt ks (M.take k++M.drop k):=by rw [List.take_append_drop];exact sM
 obtain ⟨p1,p2,p3⟩:=List.pairwise_append.1 sM2
 have e:=sym_merge O (A1:=[]) (A2:=[x]) (B1:=M.take k) (B2:=M.drop k) (fun q hq=>by simp at hq) (fun q hq=>by rw [List.mem_singleton.1 hq];exact wx) (fun q hq=>hM q (List.mem_of_mem_take hq)) (fun q hq=>hM q (List.mem_of_mem_drop hq))
  (List.pairwise_singleton _ _) sM2 (fun y hy z hz=>by rw [List.mem_singleton.1 hz];exact ht y hy) (fun z hz=>by simp at hz)
 rw [List.take_append_drop,List.nil_append,List.nil_append,List.singleton_append,List.singleton_append,sortF_id O (fun q hq=>hM q (List.mem_of_mem_take hq)) p1,sortF_id O (A:=x :: M.drop k) (fun q hq=>by
  rcases List.mem_cons.1 hq with h | h
  ·rw [h];exact wx
  ·exact hM q (List.mem_of_mem_drop h)) (List.pairwise_cons.2 ⟨hd,p2⟩)] at e
 exact e
theorem in_one {y:Keyed} {L:List Keyed} {k:Nat} (wy:W y) (hL:∀ q,q ∈ L→W q) (sL:Srt ks L) (h1:∀ t x,t<k→L[t]?=some x→¬ ordF ks y.2 x.2<0) (h2:∀ t x,k≤t→L[t]?=some x→ordF ks y.2 x.2<0) :
  L.take k++y :: L.drop k=sortF ks (L++[y]):=by
 have hd:∀ x,x ∈ L.drop k→ordF ks y.2 x.2<0:=fun x hx=>by
  obtain ⟨j,hj,hje⟩:=List.getElem_of_mem hx
  rw [List.length_drop] at hj
  rw [List.getElem_drop] at hje
  exact h2 (k+j) x (by omega) (List.getElem?_eq_some_iff.2 ⟨by omega,hje⟩)
 have ht:∀ x,x ∈ L.take k→ordF ks x.2 y.2≤0:=fun x hx=>by
  obtain ⟨j,hj,hje⟩:=List.getElem_of_mem hx
  rw [List.length_take] at hj
  rw [List.getElem_take] at hje
  have hx1:L[j]?=some x:=List.getElem?_eq_some_iff.2 ⟨by omega,hje⟩
  exact (O.anti x y (hL x (List.mem_of_getElem? hx1)) wy).1.2 (h1 j x (by omega) hx1)
 have sL2:Srt ks (L.take k++L.drop k):=by rw [List.take_append_drop];exact sL
 obtain ⟨p1,p2,p3⟩:=List.pairwise_append.1 sL2
 have e:=sym_merge O (A1:=L.take k) (A2:=L.drop k) (B1:=[y]) (B2:=[]) (fun q hq=>hL q (List.mem_of_mem_take hq)) (fun q hq=>hL q (List.mem_of_mem_drop hq)) (fun q hq=>by rw [List.mem_singleton.1 hq];exact wy) (fun q hq=>by simp at hq)
  sL2 (by rw [List.append_nil];exact List.pairwise_singleton _ _) (fun z hz x hx=>by rw [List.mem_singleton.1 hz];exact hd x hx) (fun x _ z hz=>by simp at hz)
 rw [List.take_append_drop,List.append_nil,List.append_nil,sortF_id O (fun q hq=>hL q (List.mem_of_mem_drop hq)) p2,sortF_id O (A:=L.take k++[y]) (fun q hq=>by
  rcases List.mem_append.1 hq with h | h
  ·exact hL q (List.mem_of_mem_take h)
  ·rw [List.mem_singleton.1 h];exact wy) (List.pairwise_append.2 ⟨p1,List.pairwise_singleton _ _,fun a ha b hb=>by rw [List.mem_singleton.1 hb];exact ht a ha⟩)] at e
 rw [← e];simp
end
end Go.Ev
end
section
open Go Go.Proofs Go.RowKit
namespace Go.Ev
def krow (X:List Keyed):ABlk:=.rows 2 69 (X.map kcell)
attribute [go_sem] krow
theorem get_at {α:Type} (A B:List α) (p:α) {n:Nat} (h:A.length=n):(A++p :: B)[n]?=some p:=by
 subst h;simp
theorem set_at {α:Type} (A B:List α) (p q:α) {n:Nat} (h:A.length=n):(A++p :: B).set n q=A++q :: B:=by
 subst h;simp
theorem kset (Y:List Keyed) (i:Nat) (p:Keyed):(Y.map kcell).set i [.lst 3 false (p.1.map Val.cs),.lst 3 false (p.2.map Val.cs)]=(Y.set i p).map kcell:=by
 rw [List.map_set];rfl
theorem swapRange_good (ks:List Key) (P U Q V R:List Keyed) (hl:(P++U++Q++V++R).length≤100000) (huv:V.length=U.length) :
  Good Tryz.prog 129 [.sl 0 0 (P++U++Q++V++R).length,cI P.length,cI (P++U++Q).length,cI U.length,.c (orderC ks)] [krow (P++U++Q++V++R)] (.tup []) [krow (P++V++Q++U++R)]:=by
 obtain ⟨N,hN⟩:∃ N,N=(P++U++Q++V++R).length:=⟨_,rfl⟩
 obtain ⟨a,ha⟩:∃ a,a=P.length:=⟨_,rfl⟩
 obtain ⟨b,hb⟩:∃ b,b=(P++U++Q).length:=⟨_,rfl⟩
 obtain ⟨n,hn⟩:∃ n,n=U.length:=⟨_,rfl⟩
 obtain ⟨Z,hZ⟩:∃ Z,Z=P++V++Q++U++R:=⟨_,rfl⟩
 have hba:b=a+n+Q.length:=by rw [hb,ha,hn];simp only [List.length_append]
 have hbn:b+n≤N:=by rw [hb,hn,hN];simp only [List.length_append];omega
 rw [← hN,← ha,← hb,← hn,← hZ]
 rw [← hN] at hl
 refine Good.of_vmQ TT 4000 Tryz.func129 rfl rfl ?_
 unfold Tryz.f129
 simp only [go_sem,orderC,go_sem_proc]
 refine Lp.at TT 4000 1 (Nat.le_of_ble_eq_true rfl) [false,false,false,false,false,false,false,false,false,false,true,true,true,true,true,true,true,true,true,true,true,true,true,true,true,true,true,true,true,true,true,true,true,true,true,true,true,true] (fun s:Nat × List Keyed × List Keyed × List Keyed × List Keyed=>s.2.2.1.length) (fun s=>s.1+s.2.2.1.length=n∧s.2.2.2.2.length=s.2.2.1.length∧s.2.1.length=a+s.1∧(s.2.1++s.2.2.1++s.2.2.2.1).length=b+s.1∧(s.2.1++s.2.2.1++s.2.2.2.1++s.2.2.2.2++R).length=N∧Z=s.2.1++s.2.2.2.2++s.2.2.2.1++s.2.2.1++R) (fun s=>[(10,cI s.1)]) (fun s=>[(0,.rows 2 69 ((s.2.1++s.2.2.1++s.2.2.2.1++s.2.2.2.2++R).map kcell))]) ((0,P,U,Q,V)) (⟨by show 0+U.length=n;omega,huv,ha.symm,hb.symm,hN.symm,hZ⟩) ?_ ?_
 ·simp only [go_sem,go_sem_proc]
  first | done | rfl
 ·rintro ⟨i,P,U,Q,V⟩ ⟨i1,i2,i3,i4,i5,i6⟩
  simp only at i1 i2 i3 i4 i5 i6
  cases U with
  | nil =>
   have hi:i=n:=by simpa using i1
   subst hi
   obtain rfl:V=[]:=List.eq_nil_of_length_eq_zero (by simpa using i2)
   simp only [List.append_nil] at i6
   simp only [go_sem,Nat.lt_irrefl,List.append_nil,i6,go_sem_proc]
  | cons u U =>
   cases V with
   | nil=>simp at i2
   | cons v V =>
    rw [List.length_cons] at i1
    have hlt:i<n:=by omega
    have hw:=wrap_succ (j:=i) (by omega)
    have hwa:IntKind.i64.wrap ((a:Int)+(i:Int))=((a+i:Nat):Int):=by rw [wrap_id (by omega) (by omega)];omega
    have hwb:IntKind.i64.wrap ((b:Int)+(i:Int))=((b+i:Nat):Int):=by rw [wrap_id (by omega) (by omega)];omega
    have hai:a+i<N:=by omega
    have hbi:b+i<N:=by omega
    have e1:P++(u :: U)++Q++(v :: V)++R=P++u :: (U++Q++v :: (V++R)):=by simp
    have e2:P++u :: (U++Q++v :: (V++R))=(P++(u :: U)++Q)++v :: (V++R):=by simp
    have e3:P++v :: (U++Q++v :: (V++R))=(P++(v :: U)++Q)++v :: (V++R):=by simp
    have hP2:(P++(u :: U)++Q).length=b+i:=i4
    have hP3:(P++(v :: U)++Q).length=b+i:=by rw [← i4];simp
    have q1:(P++(u :: U)++Q++(v :: V)++R)[a+i]?=some u:=by rw [e1];exact get_at _ _ _ i3
    have q2:(P++(u :: U)++Q++(v :: V)++R)[b+i]?=some v:=by rw [e1,e2];exact get_at _ _ _ hP2
    have q3:((P++(u :: U)++Q++(v :: V)++R).set (a+i) v).set (b+i) u=(P++[v])++U++(Q++[u])++V++R:=by
     rw [e1,set_at _ _ _ _ i3,e3,set_at _ _ _ _ hP3];simp
    have q4:Z=(P++[v])++V++(Q++[u])++U++R:=by rw [i6];simp
    have q5:((P++[v])++U++(Q++[u])++V++R).length=N:=by rw [← i5];simp only [List.length_append,List.length_cons,List.length_nil];omega
    generalize (P++(u :: U)++Q++(v :: V)++R)=Y at q1 q2 q3 i5 ⊢
    have q6:(Y.set (a+i) v)[b+i]?=some v:=by rw [List.getElem?_set_ne (by omega)];exact q2
    simp only [go_sem,hlt,go_sem_proc]
    refine Dr.of TT (by kernel_rfl) [] trivial ?_
    simp only [go_sem,hwa,hwb,hai,hbi,Nat.zero_add,q1,q2,i5,List.length_map,kset,q6,q3,go_sem_proc]
    refine DEnd.of TT 4000 (memOK_of2 (by kernel_rfl)) ?_
    simp only [go_sem,hw,go_sem_proc]
    exact ⟨(i+1,P++[v],U,Q++[u],V),Nat.lt_succ_self _,⟨by show i+1+U.length=n;omega,by simpa using i2,by show (P++[v]).length=_;rw [List.length_append,i3];rfl,by
     show (P++[v]++U++(Q++[u])).length=b+(i+1)
     simp only [List.length_append,List.length_cons,List.length_nil] at i4 ⊢;omega,q5,q4⟩,Fit1.of_eq rfl,rfl⟩
theorem rotate_good (ks:List Key) (A U V B:List Keyed) (hl:(A++U++V++B).length≤100000) (hu:0<U.length) (hv:0<V.length) :
  Good Tryz.prog 101 [.sl 0 0 (A++U++V++B).length,cI A.length,cI (A++U).length,cI (A++U++V).length,.c (orderC ks)] [krow (A++U++V++B)] (.tup []) [krow (A++V++U++B)]:=by
 obtain ⟨N,hN⟩:∃ N,N=(A++U++V++B).length:=⟨_,rfl⟩
 obtain ⟨m,hm⟩:∃ m,m=(A++U).length:=⟨_,rfl⟩
 obtain ⟨Z,hZ⟩:∃ Z,Z=A++V++U++B:=⟨_,rfl⟩
 have ha:A.length=m-U.length:=by rw [hm,List.length_append];omega
 have hb:(A++U++V).length=m+V.length:=by rw [hm,List.length_append]
 have hNN:m+V.length≤N:=by rw [hN,hm];simp only [List.length_append];omega
 have hum:U.length≤m:=by rw [hm,List.length_append];omega
 have hi0:IntKind.i64.wrap ((m:Int)-((m-U.length:Nat):Int))=(U.length:Int):=by rw [wrap_id (by omega) (by omega)];omega
 have hj0:IntKind.i64.wrap (((m+V.length:Nat):Int)-(m:Int))=(V.length:Int):=by rw [wrap_id (by omega) (by omega)];omega
 rw [← hN,ha,← hm,hb,← hZ]
 rw [← hN] at hl
 refine Good.of_vmQ TT 4000 Tryz.func101 rfl rfl ?_
 unfold Tryz.f101
 simp only [go_sem,orderC,hi0,hj0,go_sem_proc]
 refine Lp.at TT 4000 1 (Nat.le_of_ble_eq_true rfl) [false,false,false,false,false,false,false,false,false,false,true,true,false,false,false,false,false,false,true,true,true,true,true,true,true,true,true,true,true,true,true,true,true,true,true,true,true,true,true,true,true,true,true,true,true,true,true,true,true,true] (fun s:List Keyed × List Keyed × List Keyed × List Keyed=>s.2.1.length+s.2.2.1.length) (fun s=>(s.1++s.2.1).length=m∧0<s.2.1.length∧0<s.2.2.1.length∧(s.1++s.2.1++s.2.2.1++s.2.2.2).length=N∧Z=s.1++s.2.2.1++s.2.1++s.2.2.2) (fun s=>[(10,cI s.2.1.length),(11,cI s.2.2.1.length)]) (fun s=>[(0,.rows 2 69 ((s.1++s.2.1++s.2.2.1++s.2.2.2).map kcell))]) ((A,U,V,B)) (⟨hm.symm,hu,hv,hN.symm,hZ⟩) ?_ ?_
 ·simp only [go_sem,go_sem_proc]
  first | done | rfl
 ·rintro ⟨A,U,V,B⟩ ⟨i1,i2,i3,i4,i5⟩
  simp only at i1 i2 i3 i4 i5
  obtain ⟨i,hi⟩:∃ i,i=U.length:=⟨_,rfl⟩
  obtain ⟨j,hj⟩:∃ j,j=V.length:=⟨_,rfl⟩
  have hmj:m+j≤N:=by rw [← i4,← i1,hj];simp only [List.length_append];omega
  have him:i≤m:=by rw [← i1,hi,List.length_append];omega
  have hAm:A.length=m-i:=by rw [← i1,hi,List.length_append];omega
  have hmi:IntKind.i64.wrap ((m:Int)-(i:Int))=((m-i:Nat):Int):=by rw [wrap_id (by omega) (by omega)];omega
  rw [← hi] at i2
  rw [← hj] at i3
  simp only [go_sem,← hi,← hj,go_sem_proc]
  rcases Nat.lt_trichotomy i j with h | h | h
  ·-- the second block is longer
   obtain ⟨V1,V2,hV,hV2⟩:∃ V1 V2,V=V1++V2∧V2.length=i:=⟨V.take (j-i),V.drop (j-i),(List.take_append_drop _ _).symm,by rw [List.length_drop,← hj];omega⟩
   have hV1:V1.length=j-i:=by rw [hV,List.length_append] at hj;omega
   have c1:((i:Int) != (j:Int))=true:=by simp;omega
   have c2:((j:Int)<(i:Int))=False:=by simp;omega
   have hb2:IntKind.i64.wrap (((m:Int)+(j:Int)) )=((m+j:Nat):Int):=by rw [wrap_id (by omega) (by omega)];omega
   have hb3:IntKind.i64.wrap (((m+j:Nat):Int)-(i:Int))=((m+(j-i):Nat):Int):=by rw [wrap_id (by omega) (by omega)];omega
   have hb4:IntKind.i64.wrap ((j:Int)-(i:Int))=((j-i:Nat):Int):=by rw [wrap_id (by omega) (by omega)];omega
   have hlen:(A++U++V1++V2++B).length=N:=by rw [← i4,hV];simp
   have S:=swapRange_good ks A U V1 V2 B (by rw [hlen];exact hl) (by rw [hV2,hi])
   rw [hlen,hAm,← hi,show (A++U++V1).length=m+(j-i) by rw [List.length_append,i1,hV1]] at S
   have e1:A++U++V++B=A++U++V1++V2++B:=by rw [hV];simp
   simp only [go_sem,c1,c2,hmi,hb2,hb3,go_sem_proc]
   rw [e1]
   refine Cl.frame TT 4000 [0] S rfl (by simp only [go_sem,orderC,go_sem_proc]) (by simp only [go_sem,go_sem_proc]) (Nat.le_refl _) ?_
   simp only [go_sem,hb4,go_sem_proc]
   refine ⟨(A,V2,V1,U++B),by show V2.length+V1.length<i+j;omega,⟨by show (A++V2).length=m;rw [List.length_append];omega,by show 0<V2.length;omega,by show 0<V1.length;omega,by show (A++V2++V1++(U++B)).length=N;rw [← hlen];simp only [List.length_append];omega,by show Z=A++V1++V2++(U++B);rw [i5,hV];simp⟩,⟨Fit1.of_eq (by show cI i=cI V2.length;rw [hV2]),Fit1.of_eq (by show _=cI V1.length;rw [hV1])⟩,by show _=[ABlk.rows 2 _ ((A++V2++V1++(U++B)).map kcell)];rw [← List.append_assoc]⟩
  ·-- as long
   subst h
   have c1:((i:Int) != (i:Int))=false:=by simp
   have S:=swapRange_good ks A U [] V B (by rw [List.append_nil,i4];exact hl) (by rw [← hj,← hi])
   rw [List.append_nil,List.append_nil,i4,hAm,← hi,i1] at S
   simp only [go_sem,c1,hmi,go_sem_proc]
   refine Cl.frame TT 4000 [0] S rfl (by simp only [go_sem,orderC,go_sem_proc]) (by simp only [go_sem,go_sem_proc]) (Nat.le_refl _) ?_
   simp only [go_sem,i5,go_sem_proc]
  ·-- the first block is longer
   obtain ⟨U1,U2,hU,hU1⟩:∃ U1 U2,U=U1++U2∧U1.length=j:=⟨U.take j,U.drop j,(List.take_append_drop _ _).symm,by rw [List.length_take,← hi];omega⟩
   have hU2:U2.length=i-j:=by rw [hU,List.length_append] at hi;omega
   have c1:((i:Int) != (j:Int))=true:=by simp;omega
   have c2:((j:Int)<(i:Int))=True:=by simp;omega
   have hb4:IntKind.i64.wrap ((i:Int)-(j:Int))=((i-j:Nat):Int):=by rw [wrap_id (by omega) (by omega)];omega
   have hlen:(A++U1++U2++V++B).length=N:=by rw [← i4,hU];simp
   have S:=swapRange_good ks A U1 U2 V B (by rw [hlen];exact hl) (by rw [hU1,hj])
   rw [hlen,hAm,hU1,show (A++U1++U2).length=m by rw [← i1,hU];simp] at S
   have e1:A++U++V++B=A++U1++U2++V++B:=by rw [hU];simp
   simp only [go_sem,c1,c2,hmi,go_sem_proc]
   rw [e1]
   refine Cl.frame TT 4000 [0] S rfl (by simp only [go_sem,orderC,go_sem_proc]) (by simp only [go_sem,go_sem_proc]) (Nat.le_refl _) ?_
   simp only [go_sem,hb4,go_sem_proc]
   refine ⟨(A++V,U2,U1,B),by show U2.length+U1.length<i+j;omega,⟨by show (A++V++U2).length=m;rw [List.length_append,List.length_append];omega,by show 0<U2.length;omega,by show 0<U1.length;omega,by show (A++V++U2++U1++B).length=N;rw [← hlen];simp only [List.length_append];omega,by show Z=A++V++U1++U2++B;rw [i5,hU];simp⟩,⟨Fit1.of_eq (by show _=cI U2.length;rw [hU2]),Fit1.of_eq (by show cI j=cI U1.length;rw [hU1])⟩,rfl⟩
end Go.Ev
end
section
open Go Go.Proofs Go.RowKit
namespace Go.Ev
abbrev WK (ks:List Key):Keyed→Prop:=fun p=>p.2.length=ks.length
theorem insertion_good (ks:List Key) (hk:ks.length≤1000) (A L B:List Keyed) (hl:(A++L++B).length≤100000) (hW:∀ q,q ∈ L→WK ks q) :
  Good Tryz.prog 62 [.sl 0 0 (A++L++B).length,cI A.length,cI (A++L).length,.c (orderC ks)] [krow (A++L++B)] (.tup []) [krow (A++sortF ks L++B)]:=by
 obtain ⟨N,hN⟩:∃ N,N=(A++L++B).length:=⟨_,rfl⟩
 obtain ⟨a,ha⟩:∃ a,a=A.length:=⟨_,rfl⟩
 obtain ⟨l,hll⟩:∃ l,l=L.length:=⟨_,rfl⟩
 have hal:a+l≤N:=by rw [hN,ha,hll];simp only [List.length_append];omega
 rw [show (A++L).length=a+l by rw [List.length_append,ha,hll],← hN,← ha]
 rw [← hN] at hl
 have hw0:IntKind.i64.wrap ((a:Int)+1)=((a+1:Nat):Int):=wrap_succ (by omega)
 obtain ⟨Y,hY⟩:∃ Y:Nat→List Keyed,∀ k,Y k=A++sortF ks (L.take k)++L.drop k++B:=⟨_,fun _=>rfl⟩
 have hY1:Y 1=A++L++B:=by
  rw [hY]
  cases L with
  | nil=>simp [sortF]
  | cons x L=>simp [sortF,insF,posF]
 have hYl:∀ k,(Y k).length=N:=fun k=>by
  rw [hY,hN]
  simp only [List.length_append,sortF_len,List.length_take,List.length_drop];omega
 rw [← hY1]
 refine Good.of_vmQ TT 4000 Tryz.func62 rfl rfl ?_
 unfold Tryz.f62
 simp only [go_sem,orderC,hw0,go_sem_proc]
 refine Lp.at TT 4000 1 (Nat.le_of_ble_eq_true rfl) [false,false,false,false,false,false,false,false,true,true,false,false,true,true,true,true,true,true,true,true,true,true,true,true,true,true,true,true,true,true,true,true,true,true,true,true,true,true,true,true,true,true,true,true,true,true,true,true,true,true,true,true,true] (fun k:Nat=>l+1-k) (fun k=>1≤k∧k≤l+1∧(k≤l∨k=1∨k=l)) (fun k=>[(8,cI (a+k:Nat))]) (fun k=>[(0,.rows 2 69 ((Y k).map kcell))]) (1) (⟨Nat.le_refl _,by omega,.inr (.inl rfl)⟩) ?_ ?_
 ·simp only [go_sem,go_sem_proc]
  first | done | rfl
 ·rintro k ⟨i1,i2,i3⟩
  rcases Nat.lt_or_ge k l with hlt | hge
  ·have g1:(((a+k:Nat):Int)<((a+l:Nat):Int))=True:=by simp;omega
   obtain ⟨x,hx,hm,ht,hd⟩:=getS (l:=L) (j:=k) (by omega)
   obtain ⟨S,hS⟩:∃ S,S=sortF ks (L.take k):=⟨_,rfl⟩
   have hSl:S.length=k:=by rw [hS,sortF_len,List.length_take];omega
   have hSW:∀ q,q ∈ S→WK ks q:=fun q hq=>hW q (List.mem_of_mem_take ((sortF_mem ks _ q).1 (hS ▸ hq)))
   have hYk:Y k=A++S++x :: (L.drop (k+1)++B):=by rw [hY,hd,← hS];simp
   have hYn:Y (k+1)=A++insF ks S x++(L.drop (k+1)++B):=by rw [hY,ht,sortF_snoc,← hS];simp
   have hwk:IntKind.i64.wrap (((a+k:Nat):Int)+1)=((a+(k+1):Nat):Int):=wrap_succ (by omega)
   generalize L.drop (k+1)++B=R at hYk hYn
   simp only [go_sem,g1,go_sem_proc]
   refine Lp.at TT 4000 1 (Nat.le_of_ble_eq_true rfl) [false,false,false,false,false,false,false,false,false,true,false,false,false,false,false,false,false,false,true,true,true,true,true,true,true,true,true,true,true,true,true,true,true,true,true,true,true,true,true,true,true,true,true,true,true,true,true,true,true,true,true,true,true] (fun c:Nat=>c) (fun c=>c≤k∧posF ks (snds S) x.2 k=posF ks (snds S) x.2 c) (fun c=>[(9,cI (a+c:Nat))]) (fun c=>[(0,.rows 2 69 ((A++S.take c++x :: (S.drop c++R)).map kcell))]) (k) (⟨Nat.le_refl _,rfl⟩) ?_ ?_
   ·simp only [go_sem,go_sem_proc]
    rw [hYk,List.take_of_length_le (by omega),List.drop_of_length_le (by omega)]
    rfl
   ·rintro c ⟨k1,k2⟩
    rcases Nat.eq_zero_or_pos c with hc0 | hc0
    ·subst hc0
     have g0:((a:Int)<((a+0:Nat):Int))=False:=by simp
     simp only [go_sem,g0,go_sem_proc]
     refine Dr.of TT (by kernel_rfl) [] trivial ?_
     simp only [go_sem,g0,go_sem_proc]
     refine DEnd.of TT 4000 (memOK_quiet rfl) ?_
     simp only [go_sem,hwk,go_sem_proc]
     have hpos:posF ks (snds S) x.2 k=0:=by rw [k2];rfl
     have hfin:A++x :: (S++R)=Y (k+1):=by rw [hYn];unfold insF;rw [hSl,hpos];simp
     exact ⟨k+1,by omega,⟨by omega,by omega,by omega⟩,Fit1.of_eq rfl,by rw [hfin]⟩
    ·obtain ⟨i,rfl⟩:∃ i,c=i+1:=⟨c-1,by omega⟩
     have g0:((a:Int)<((a+(i+1):Nat):Int))=True:=by simp;omega
     have hj1:IntKind.i64.wrap (((a+(i+1):Nat):Int)-1)=((a+i:Nat):Int):=by rw [wrap_id (by omega) (by omega)];omega
     obtain ⟨s,hs,hsm,hst,hsd⟩:=getB hSl (show i<k by omega)
     have hs2:(snds S).getD i []=s.2:=by rw [List.getD_eq_getElem?_getD,List.getElem?_map,hs];rfl
     rw [posF,hs2] at k2
     have ho:=order1_good ks x s (hW x hm) (hSW s hsm) hk
     have hti:(A++S.take i).length=a+i:=by rw [List.length_append,List.length_take,← ha,Nat.min_eq_left (by omega)]
     have e1:A++S.take (i+1)++x :: (S.drop (i+1)++R)=A++S.take i++s :: (x :: (S.drop (i+1)++R)):=by rw [hst];simp
     have e2:A++S.take i++s :: (x :: (S.drop (i+1)++R))=(A++S.take i++[s])++x :: (S.drop (i+1)++R):=by simp
     have e3:(A++S.take i++[s])++s :: (S.drop (i+1)++R)=A++S.take i++s :: (S.drop i++R):=by rw [hsd];simp
     have hti1:(A++S.take i++[s]).length=a+(i+1):=by rw [List.length_append,hti];rfl
     have q1:(A++S.take (i+1)++x :: (S.drop (i+1)++R))[a+i]?=some s:=by rw [e1];exact get_at _ _ _ hti
     have q2:(A++S.take (i+1)++x :: (S.drop (i+1)++R))[a+(i+1)]?=some x:=by rw [e1,e2];exact get_at _ _ _ hti1
     have q3:((A++S.take (i+1)++x :: (S.drop (i+1)++R)).set (a+(i+1)) s).set (a+i) x=A++S.take i++x :: (S.drop i++R):=by
      rw [e1,e2,set_at _ _ _ _ hti1,e3,set_at _ _ _ _ hti]
     have hlY:(A++S.take (i+1)++x :: (S.drop (i+1)++R)).length=N:=by
      rw [← hYl k,hYk];simp only [List.length_append,List.length_cons,List.length_take,List.length_drop];omega
     have hb1:a+i<N:=by omega
     have hb2:a+(i+1)<N:=by omega
     have hfin:∀ c,c≤k→posF ks (snds S) x.2 k=c→A++S.take c++x :: (S.drop c++R)=Y (k+1):=fun c hc h=>by
      rw [hYn];unfold insF;rw [hSl,h];simp
     obtain ⟨T,hT⟩:∃ T,T=A++S.take (i+1)++x :: (S.drop (i+1)++R):=⟨_,rfl⟩
     rw [← hT] at q1 q2 q3 hlY ⊢
     have q4:(T.set (a+(i+1)) s)[a+i]?=some s:=by rw [List.getElem?_set_ne (by omega)];exact q1
     simp only [go_sem,g0,go_sem_proc]
     refine Dr.of TT (by kernel_rfl) [(46,[.agg [.c (rowC x.1),.c (rowC x.2)],.agg [.c (rowC s.1),.c (rowC s.2)],.rd [keysC ks]],cI (ordF ks x.2 s.2))] ⟨⟨ho,rfl⟩,trivial⟩ ?_
     clear ho
     have hanti:=ordF_anti ks s.2 x.2
     generalize ordF ks x.2 s.2=o at hanti ⊢
     simp only [go_sem,g0,hj1,q1,q2,hb1,hb2,hlY,Nat.zero_add,List.length_map,go_sem_proc]
     refine DEnd.of TT 4000 (memOK_quiet rfl) ?_
     by_cases ho:o<0
     ·have ho1:(o<0)=True:=eq_true ho
      rw [if_pos (by omega)] at k2
      simp only [go_sem,ho1,hj1,go_sem_proc]
      refine Dr.of TT (by kernel_rfl) [] trivial ?_
      simp only [go_sem,hj1,q1,q2,hb1,hb2,hlY,Nat.zero_add,List.length_map,kset,q4,q3,go_sem_proc]
      refine DEnd.of TT 4000 (memOK_of2 (by kernel_rfl)) ?_
      simp only [go_sem,hj1,go_sem_proc]
      exact ⟨i,by omega,⟨by omega,k2⟩,Fit1.of_eq rfl,rfl⟩
     ·have ho1:(o<0)=False:=eq_false ho
      rw [if_neg (by omega)] at k2
      simp only [go_sem,ho1,hwk,go_sem_proc]
      exact ⟨k+1,by omega,⟨by omega,by omega,by omega⟩,Fit1.of_eq rfl,by rw [hT,hfin (i+1) k1 k2]⟩
  ·have g1:(((a+k:Nat):Int)<((a+l:Nat):Int))=False:=by simp;omega
   have hYe:Y k=A++sortF ks L++B:=by
    rw [hY,List.take_of_length_le (by omega),List.drop_of_length_le (by omega),List.append_nil]
   simp only [go_sem,g1,hYe,go_sem_proc]
end Go.Ev
end
