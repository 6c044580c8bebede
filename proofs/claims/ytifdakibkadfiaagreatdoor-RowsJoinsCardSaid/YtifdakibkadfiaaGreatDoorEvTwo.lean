/-  The evaluator, third part: reckoned runs, formulas. Over any program. -/
import Derived.Test.YtifdakibkadfiaaGreatDoorEvMid
import Derived.Laws.Externs
import Derived.Scope
set_option linter.all false
set_option maxRecDepth 100000
set_option maxHeartbeats 8000000
namespace Go.Ev
open Go.RowKit
variable [qo]
theorem ZY {P:Program} {E:Env} (T:zE P E) {C:FuncId → List AV → List zf → Option AV} (hC:Kg P C) {ops:Array Oper} {rs:List Rec} {s0:St} {b:Nat} {Q:Exit → Act → World → Prop} {X:Ent}
  (hsl:qV ops=true) (hmem:Z9 ops rs=true) (n:Nat) (hn:n ≤ ops.size) (hlen:rs.length=n)
  (hanc:∀ i j,i < n → n ≤ j → j < ops.size → ((ZU ops ops.size).getD j 0).testBit i=true)
  (htext:∀ j,j < n → ∃ o r,rs[j]?=some r ∧ zgy E C ops b s0.h.length (stD ops rs s0 (fun _=>true) j) j o r)
  (hQ:∀ (fuel:Nat) (listed:Array Bool) (a:Act) (w:World),listed.size=ops.size → K0 (fun i=>listed.getD i false) ops.size ≤ fuel → (∀ i,i < n → listed.getD i false=true) → (∀ i,n ≤ i → listed.getD i false=false) → Sim X (stD ops rs s0 (fun _=>true) n) a w → wpAny P .any ops Q fuel listed a w) :
  ∀ (fuel:Nat) (listed:Array Bool) (a:Act) (w:World),listed.size=ops.size → K0 (fun i=>listed.getD i false) ops.size ≤ fuel →
   (∀ j,listed.getD j false=true → ∀ p,p ∈ vJ ops j → listed.getD p false=true) →
   (∀ i,n ≤ i → listed.getD i false=false) → Sim X (stD ops rs s0 (fun i=>listed.getD i false) n) a w → wpAny P .any ops Q fuel listed a w:=by
 simp only [qV,Bool.and_eq_true] at hsl
 obtain ⟨hpr,hsl⟩:=hsl
 have hb:Bnd rs s0.h.length:=fun i id hi=>by
  unfold wE at hi
  split at hi
  ·rename_i r hr
   obtain ⟨p,hp,rfl⟩:=List.mem_map.1 hi
   have hlt:i < n:=by rw [← hlen];exact (List.getElem?_eq_some_iff.1 hr).1
   obtain ⟨o,r',hr',ht⟩:=htext i hlt
   rw [hr] at hr';cases hr'
   exact ht.bnd p hp
  ·cases hi
 have slots:∀ i j,i < j → j < ops.size → ((ZU ops ops.size).getD j 0).testBit i=true ∨ qu ops i j=true:=fun i j hij hj=>by
  have:=vT hsl hij hj
  simpa using this
 have mems:∀ i j,i < j → j < ops.size → kC (recAt rs i) (recAt rs j)=true ∨ ((ZU ops ops.size).getD j 0).testBit i=true:=fun i j hij hj=>Jd hmem hij hj
 have recAt_of:∀ {i:Nat} {r:Rec},rs[i]?=some r → recAt rs i=r:=fun h=>by simp [recAt,h]
 have allOf:∀ (listed:Array Bool),(∀ i,i < n → listed.getD i false=true) → stD ops rs s0 (fun i=>listed.getD i false) n=stD ops rs s0 (fun _=>true) n:=fun listed hall=>by
  have:∀ k,k ≤ n → stD ops rs s0 (fun i=>listed.getD i false) k=stD ops rs s0 (fun _=>true) k:=by
   intro k
   induction k with
   | zero=>intro _;rfl
   | succ k ih=>intro hn;simp only [stD];rw [ih (by omega)];simp only [hall k (by omega)]
  exact this _ (Nat.le_refl _)
 have readyAll:∀ (listed:Array Bool),listed.size=ops.size → Region.ready .any ops listed=[] → ∀ i,i < ops.size → listed.getD i false=true:=fun listed hsz hr i=>by
  induction i using Nat.strongRecOn with
  | _ i ih =>
   intro hi
   cases hd:listed.getD i false with
   | true=>rfl
   | false =>
    exfalso
    have hmem:i ∈ Region.ready .any ops listed:=by
     rw [mem_ready]
     have hi':i < listed.size:=by omega
     have ho:ops[i]?=some ops[i]:=Array.getElem?_eq_getElem hi
     refine ⟨?_,ops[i],ho,fun e he hbd=>?_⟩
     ·simp only [Array.getD_eq_getD_getElem?,Array.getElem?_eq_getElem hi',Option.getD_some] at hd ⊢;exact hd
     ·have hp:e.on ∈ vJ ops i:=by
       unfold vJ;rw [ho]
       exact List.mem_filterMap.2 ⟨e,by simpa using he,by rw [if_pos hbd]⟩
      have hlt:=vZ hpr i hi _ hp
      exact ih e.on hlt (by omega)
    rw [hr] at hmem;cases hmem
 intro fuel
 induction fuel with
 | zero =>
  intro listed a w hsz hcnt hdown hup hs
  have hall:=Zj (Nat.le_zero.1 hcnt)
  exact hQ 0 listed a w hsz hcnt (fun i hi=>hall i (by omega)) hup (by rw [← allOf listed fun i hi=>hall i (by omega)];exact hs)
 | succ fuel ih =>
  intro listed a w hsz hcnt hdown hup hs
  by_cases hfull:∀ i,i < n → listed.getD i false=true
  ·exact hQ (fuel + 1) listed a w hsz hcnt hfull hup (by rw [← allOf listed hfull];exact hs)
  have hmiss:∃ i,i < n ∧ listed.getD i false=false:=by
   refine Classical.byContradiction fun hc=>hfull fun i hi=>?_
   cases hd:listed.getD i false with
   | true=>rfl
   | false=>exact absurd ⟨i,hi,hd⟩ hc
  obtain ⟨i0,hi0,hd0⟩:=hmiss
  refine ⟨fun hr=>?_,fun j hj=>?_⟩
  ·have:=readyAll listed hsz hr i0 (by omega)
   rw [hd0] at this;cases this
  obtain ⟨h0,o,ho,hpre⟩:=mem_ready.1 hj
  have hjs:j < ops.size:=(Array.getElem?_eq_some_iff.1 ho).1
  have hD:listed.getD j false=false:=by
   simp only [Array.getD_eq_getD_getElem?,Array.getElem?_eq_getElem (show j < listed.size by omega),Option.getD_some] at h0 ⊢;exact h0
  have hpreds:∀ p,p ∈ vJ ops j → listed.getD p false=true:=fun p hp=>by
   unfold vJ at hp;rw [ho] at hp
   obtain ⟨e,he,heq⟩:=List.mem_filterMap.1 hp
   split at heq
   ·rename_i hbd;cases heq;exact hpre e (by simpa using he) hbd
   ·cases heq
  have hjl:j < n:=by
   rcases Nat.lt_or_ge j n with h1 | h1
   ·exact h1
   ·exfalso
    have:=k5 (D:=fun i=>listed.getD i false) hdown ops.size j i0 hjs (hanc i0 j hi0 h1 hjs) hpreds
    have h9:listed.getD i0 false=true:=this
    rw [hd0] at h9;cases h9
  obtain ⟨o',r,hr,ht⟩:=htext j hjl
  have:=ht.oper
  rw [ho] at this;cases this
  have agree:∀ i,i < n → (i < j → qu ops i j=false ∨ kC (recAt rs i) (recAt rs j)=false → listed.getD i false=true) ∧ (j < i → qu ops j i=false ∨ kC (recAt rs j) (recAt rs i)=false → listed.getD i false=false):=fun i hi=>by
   refine ⟨fun hij hc=>?_,fun hij hc=>?_⟩
   ·have hanc:((ZU ops ops.size).getD j 0).testBit i=true:=by
     rcases hc with hc | hc
     ·rcases slots i j hij hjs with h1 | h1
      ·exact h1
      ·rw [hc] at h1;cases h1
     ·rcases mems i j hij hjs with h1 | h1
      ·rw [hc] at h1;cases h1
      ·exact h1
    exact k5 (D:=fun i=>listed.getD i false) hdown ops.size j i hjs hanc hpreds
   ·have hanc:((ZU ops ops.size).getD i 0).testBit j=true:=by
     rcases hc with hc | hc
     ·rcases slots j i hij (by omega) with h1 | h1
      ·exact h1
      ·rw [hc] at h1;cases h1
     ·rcases mems j i hij (by omega) with h1 | h1
      ·rw [hc] at h1;cases h1
      ·exact h1
    cases hdi:listed.getD i false with
    | false=>rfl
    | true =>
     have:=k5 (D:=fun i=>listed.getD i false) hdown ops.size i j (by omega) hanc (fun p hp=>hdown i hdi p hp)
     have h9:listed.getD j false=true:=this
     rw [hD] at h9;cases h9
  have pre:∀ m,j ≤ m → stD ops rs s0 (fun i=>decide (i < j)) m=stD ops rs s0 (fun _=>true) j:=by
   have below:∀ n,n ≤ j → stD ops rs s0 (fun i=>decide (i < j)) n=stD ops rs s0 (fun _=>true) n:=by
    intro n
    induction n with
    | zero=>intro _;rfl
    | succ n ihn=>intro hn;simp only [stD];rw [ihn (by omega)];simp [show n < j by omega]
   intro m
   induction m with
   | zero =>
    intro hn
    have h9:=below 0 (Nat.zero_le _)
    have e0:j=0:=by omega
    rw [h9,e0]
   | succ m ihn =>
    intro hn
    by_cases e:j=m + 1
    ·rw [← e];exact below j (Nat.le_refl _)
    ·simp only [stD];simp [show ¬ m < j by omega];exact ihn (by omega)
  have hrj:=recAt_of hr
  have tslot:∀ d,d ∈ o.looksAt ops → (stD ops rs s0 (fun i=>listed.getD i false) n).t[d]?=(stD ops rs s0 (fun _=>true) j).t[d]?:=fun d hd=>by
   rw [← pre n (Nat.le_of_lt hjl)]
   refine QK _ fun i hi hdst=>?_
   have hlook:(jG ops j).contains d=true:=by simp only [jG,ho];simpa using hd
   rcases Nat.lt_trichotomy i j with h1 | h1 | h1
   ·simp only [h1,decide_true]
    exact (agree i hi).1 h1 (.inl (by simp only [qu,hdst,hlook];simp))
   ·subst h1;simp only [hD];simp
   ·have:=(agree i hi).2 h1 (.inl (by simp only [qu,hdst,hlook];simp))
    simp only [this];simp;omega
  have tblk:∀ id,id ∈ (b + j) :: vt (stD ops rs s0 (fun _=>true) j) o → (stD ops rs s0 (fun i=>listed.getD i false) n).h[id]?=(stD ops rs s0 (fun _=>true) j).h[id]?:=fun id hid=>by
   rw [← pre n (Nat.le_of_lt hjl)]
   refine Yk hb rfl _ fun i hi hdom=>?_
   rw [← ht.reads] at hid
   have key:∀ (hij:i ≠ j),∃ q,rs[i]?=some q ∧ ∃ p,p ∈ q.U ∧ p.1=id:=fun hij=>by
    unfold wE at hdom
    split at hdom
    ·rename_i q hq
     obtain ⟨p,hp,rfl⟩:=List.mem_map.1 hdom
     exact ⟨q,hq,p,hp,rfl⟩
    ·cases hdom
   rcases Nat.lt_trichotomy i j with h1 | h1 | h1
   ·simp only [h1,decide_true]
    obtain ⟨q,hq,p,hp,rfl⟩:=key (by omega)
    refine (agree i hi).1 h1 (.inr ?_)
    rw [recAt_of hq,hrj]
    simp only [kC,Bool.and_eq_false_iff,List.all_eq_false]
    exact .inl ⟨p,hp,by simp [hid]⟩
   ·subst h1;simp only [hD];simp
   ·obtain ⟨q,hq,p,hp,rfl⟩:=key (by omega)
    have:=(agree i hi).2 h1 (.inr (by
     rw [recAt_of hq,hrj]
     simp only [kC,Bool.and_eq_false_iff,List.all_eq_false]
     exact .inr ⟨p,hp,by simp [hid]⟩))
    simp only [this];simp;omega
  have hact:act E C ops o (stD ops rs s0 (fun i=>listed.getD i false) n) (b + j)=some (r.v,r.U):=by
   rw [← ht.acts]
   exact zbv E C ops o (b + j) (by rw [vM hb rfl,vM hb rfl]) tslot fun id hid=>tblk id (List.mem_cons_of_mem _ hid)
  have hfr:kA (stD ops rs s0 (fun i=>listed.getD i false) n).h (b + j):=.inr ((tblk (b + j) (by simp)).trans ht.fresh)
  refine zbg T hC ho hfr hact hs fun a' w' hs'=>?_
  have hset:∀ i,i ≠ j → (listed.setIfInBounds j true).getD i false=listed.getD i false:=fun i hi=>getD_set_ne false (Ne.symm hi)
  have hsetj:(listed.setIfInBounds j true).getD j false=true:=by simp [show j < listed.size by omega]
  refine ih (listed.setIfInBounds j true) a' w' (by simpa using hsz) ?_ ?_ (fun i hi=>by rw [hset i (by omega)];exact hup i hi) ?_
  ·have:=(QN (D:=fun i=>listed.getD i false) (D':=fun i=>(listed.setIfInBounds j true).getD i false) hD hsetj hset ops.size).2 hjs
   omega
  ·intro k hk p hp
   by_cases e:k=j
   ·subst e
    exact getD_set_true (hpreds p hp)
   ·rw [hset k e] at hk
    exact getD_set_true (hdown k hk p hp)
  ·rw [xY (D:=fun i=>listed.getD i false) hb rfl hD hsetj hset n hjl]
   ·unfold QC;rw [ho,hr];exact hs'
   ·intro i h1 h2 hDi
    have hDi:listed.getD i false=true:=hDi
    have hno:=(agree i h2).2 h1
    refine ⟨fun x hx hxi=>?_,fun x hx hxi=>?_⟩
    ·have:=hno (.inl (by simp only [qu,hx,hxi];simp))
     rw [hDi] at this;cases this
    ·unfold wE at hx hxi
     rw [hr] at hx
     split at hxi
     ·rename_i q hq
      obtain ⟨p,hp,rfl⟩:=List.mem_map.1 hx
      have:=hno (.inr (by
       rw [recAt_of hq,hrj]
       simp only [kC,Bool.and_eq_false_iff,List.all_eq_false]
       exact .inl ⟨p,hp,by simp;intro _;simpa using hxi⟩))
      rw [hDi] at this;cases this
     ·cases hxi
def QX (ops:Array Oper) (n:Nat):Bool:=decide (n ≤ ops.size) && (let T:=ZU ops ops.size;(List.range ops.size).all fun j=>(List.range j).all fun i=>decide (j < n) || (T.getD j 0).testBit i)
theorem Kt {ops:Array Oper} {n:Nat} (h:QX ops n=true):n ≤ ops.size ∧ ∀ i j,i < j → n ≤ j → j < ops.size → ((ZU ops ops.size).getD j 0).testBit i=true:=by
 simp only [QX,Bool.and_eq_true,decide_eq_true_eq] at h
 refine ⟨h.1,fun i j hij hn hj=>?_⟩
 have:=List.all_eq_true.1 (List.all_eq_true.1 h.2 j (List.mem_range.2 hj)) i (List.mem_range.2 hij)
 simp only [Bool.or_eq_true,decide_eq_true_eq] at this
 exact this.resolve_left (by omega)
theorem jZ {P:Program} {ops:Array Oper} {n:Nat} {Q:Exit → Act → World → Prop} (hpr:ZR ops ops.size=true) (hanc:∀ i j,i < j → n ≤ j → j < ops.size → ((ZU ops ops.size).getD j 0).testBit i=true) :
  ∀ (k m:Nat),m + k=ops.size → n ≤ m → ∀ (fuel:Nat) (listed:Array Bool) (a:Act) (w:World),listed.size=ops.size → k ≤ fuel → (∀ i,i < m → listed.getD i false=true) → (∀ i,m ≤ i → listed.getD i false=false) →
   wpOps P ops Q (List.range' m k) a w → wpAny P .any ops Q fuel listed a w
 | 0,m,hm,hn,fuel,listed,a,w,hsz,hf,hl,hu,hw=>by
  have hnone:Region.ready .any ops listed=[]:=by
   cases hr:Region.ready .any ops listed with
   | nil=>rfl
   | cons i l =>
    have hmm:i ∈ Region.ready .any ops listed:=by rw [hr];simp
    obtain ⟨h0,o,ho,_⟩:=mem_ready.1 hmm
    have hi:i < ops.size:=(Array.getElem?_eq_some_iff.1 ho).1
    have h1:=hl i (by omega)
    simp only [Array.getD_eq_getD_getElem?,Array.getElem?_eq_getElem (show i < listed.size by omega),Option.getD_some] at h0 h1
    rw [h0] at h1;cases h1
  cases fuel with
  | zero=>exact ⟨hnone,hw⟩
  | succ fuel=>exact ⟨fun _=>hw,fun i hi=>by rw [hnone] at hi;cases hi⟩
 | k + 1,m,hm,hn,fuel,listed,a,w,hsz,hf,hl,hu,hw=>by
  cases fuel with
  | zero=>omega
  | succ fuel =>
   have hms:m < ops.size:=by omega
   have hdown:∀ j,listed.getD j false=true → ∀ p,p ∈ vJ ops j → listed.getD p false=true:=fun j hj p hp=>by
    rcases Nat.lt_or_ge j m with h1 | h1
    ·exact hl p (by have:=vZ hpr j (by omega) p hp;omega)
    ·rw [hu j h1] at hj;cases hj
   have rdy:m ∈ Region.ready .any ops listed:=by
    rw [mem_ready]
    have ho:ops[m]?=some ops[m]:=Array.getElem?_eq_getElem hms
    refine ⟨?_,ops[m],ho,fun e he hbd=>?_⟩
    ·have:=hu m (Nat.le_refl _)
     simp only [Array.getD_eq_getD_getElem?,Array.getElem?_eq_getElem (show m < listed.size by omega),Option.getD_some] at this ⊢;exact this
    ·have hp:e.on ∈ vJ ops m:=by
      unfold vJ;rw [ho]
      exact List.mem_filterMap.2 ⟨e,by simpa using he,by rw [if_pos hbd]⟩
     exact hl _ (vZ hpr m hms _ hp)
   refine ⟨fun hr=>(by rw [hr] at rdy;cases rdy),fun j hj=>?_⟩
   obtain ⟨h0,o,ho,hpre⟩:=mem_ready.1 hj
   have hjs:j < ops.size:=(Array.getElem?_eq_some_iff.1 ho).1
   have hjm:j=m:=by
    rcases Nat.lt_trichotomy j m with h1 | h1 | h1
    ·have:=hl j h1
     simp only [Array.getD_eq_getD_getElem?,Array.getElem?_eq_getElem (show j < listed.size by omega),Option.getD_some] at h0 this
     rw [h0] at this;cases this
    ·exact h1
    ·exfalso
     have hpreds:∀ p,p ∈ vJ ops j → listed.getD p false=true:=fun p hp=>by
      unfold vJ at hp;rw [ho] at hp
      obtain ⟨e,he,heq⟩:=List.mem_filterMap.1 hp
      split at heq
      ·rename_i hbd;cases heq;exact hpre e (by simpa using he) hbd
      ·cases heq
     have:=k5 (D:=fun i=>listed.getD i false) hdown ops.size j m hjs (hanc m j h1 (by omega) hjs) hpreds
     have h9:listed.getD m false=true:=this
     rw [hu m (Nat.le_refl _)] at h9;cases h9
   subst hjm
   rw [List.range'_succ,wpOps_cons] at hw
   refine wpOp_mono (fun a' w' h=>?_) hw
   refine jZ hpr hanc k (j + 1) (by omega) (by omega) fuel (listed.setIfInBounds j true) a' w' (by simpa using hsz) (by omega) (fun i hi=>?_) (fun i hi=>?_) h
   ·by_cases e:i=j
    ·subst e;simp [show i < listed.size by omega]
    ·rw [getD_set_ne false (Ne.symm e)];exact hl i (by omega)
   ·rw [getD_set_ne false (show j ≠ i by omega)];exact hu i (by omega)
def yQ (E:Env) (C:FuncId → List AV → List zf → Option AV) (ops:Array Oper) (n:Nat) (s:St):Option St:=
 match runT E C ops s.h.length (s.h ++ List.replicate ops.size zf.zy).length n 0 ⟨s.t,s.h ++ List.replicate ops.size zf.zy⟩ with
 | some (rs,s1)=>if Z9 ops rs then some ⟨s1.t,yU s1.h⟩ else none
 | none=>none
def zll (ops:Array Oper):Option Nat:=(List.range ops.size).find? (QX ops)
theorem zim {ops:Array Oper} {n:Nat} (h:zll ops=some n):QX ops n=true:=List.find?_some h
theorem Run.W9 {P:Program} {E:Env} (T:zE P E) {C:FuncId → List AV → List zf → Option AV} (hC:Kg P C) {q:Nat} {id:Nat} {ops:Array Oper} {n:Nat} {s s':St} {Q:Exit → St → Prop} (hsl:qV ops=true) (htl:QX ops n=true) (hd:yQ E C ops n s=some s')
  (h:zB P q ops (List.range' n (ops.size - n)) Q s'):Run P q (.region id ops true) Q s:=fun X a w hX hs=>by
 obtain ⟨hn,hanc⟩:=Kt htl
 unfold Ev.yQ at hd
 split at hd
 ·rename_i rs s1 hrun
  split at hd
  ·rename_i hmem
   cases hd
   have hs0:Sim X ⟨s.t,s.h ++ List.replicate ops.size zf.zy⟩ a w:=Sim.pad (t:=s.t) (h:=s.h) hs fun i=>by
    rcases Nat.lt_or_ge i s.h.length with hi | hi
    ·left;rw [List.getElem?_append_left hi]
    ·right
     refine ⟨.inl (List.getElem?_eq_none hi),?_⟩
     rw [List.getElem?_append_right hi,List.getElem?_replicate]
     split
     ·exact .inr rfl
     ·exact .inl rfl
   obtain ⟨h1,h2,h3⟩:=KL (s0:=⟨s.t,s.h ++ List.replicate ops.size zf.zy⟩) (all:=rs) n 0 _ [] rs s1 hrun rfl rfl rfl
   simp only [Nat.zero_add] at h1 h2 h3
   have hpr:ZR ops ops.size=true:=by simp only [qV,Bool.and_eq_true] at hsl;exact hsl.1
   refine wp_region_any T.mixed ?_
   refine ZY (s0:=⟨s.t,s.h ++ List.replicate ops.size zf.zy⟩) (b:=s.h.length) T hC hsl hmem n hn h2 (fun i j hi hj hs=>hanc i j (by omega) hj hs) (fun j hj=>h3 j (Nat.zero_le _) hj) (X:=X) (fun fuel listed a' w' hsz hcnt hl hu hs'=>?_) ops.size _ a _ (by simp) ?_ ?_ ?_ ?_
   ·have hk:ops.size - n ≤ fuel:=by
     have:∀ m,n ≤ m → m ≤ ops.size → m - n ≤ K0 (fun i=>listed.getD i false) m:=fun m=>by
      induction m with
      | zero=>intro _ _;omega
      | succ m ih =>
       intro h1 h2
       simp only [K0]
       by_cases e:n=m + 1
       ·omega
       ·have:=ih (by omega) (by omega)
        have e9:(if listed.getD m false=true then 0 else 1)=1:=by simp only [hu m (by omega)];simp
        show m + 1 - n ≤ K0 (fun i=>listed.getD i false) m + (if listed.getD m false=true then 0 else 1)
        rw [e9];omega
     have:=this ops.size hn (Nat.le_refl _)
     omega
    refine jZ hpr hanc (ops.size - n) n (by omega) (Nat.le_refl _) fuel listed a' w' hsz hk hl hu ?_
    refine h X a' w' hX ?_
    rw [← h1] at hs'
    exact Sim.pad (t:=s1.t) (h:=s1.h) hs' (Zi s1.h)
   ·have:∀ (D:Nat → Bool) n,K0 D n ≤ n:=fun D n=>by
     induction n with
     | zero=>exact Nat.le_refl _
     | succ n ih=>simp only [K0];split <;> omega
    exact this _ _
   ·intro j hj
    have hf:(Array.replicate ops.size false).getD j false=false:=by
     simp only [Array.getD_eq_getD_getElem?,Array.getElem?_replicate];split <;> rfl
    rw [hf] at hj;cases hj
   ·intro i _
    simp only [Array.getD_eq_getD_getElem?,Array.getElem?_replicate];split <;> rfl
   ·have:∀ n,stD ops rs ⟨s.t,s.h ++ List.replicate ops.size zf.zy⟩ (fun i=>(Array.replicate ops.size false).getD i false) n=⟨s.t,s.h ++ List.replicate ops.size zf.zy⟩:=fun n=>by
     induction n with
     | zero=>rfl
     | succ n ih =>
      have hf:(Array.replicate ops.size false).getD n false=false:=by
       simp only [Array.getD_eq_getD_getElem?,Array.getElem?_replicate];split <;> rfl
      simp only [stD,hf];exact ih
    rw [this]
    exact hs0.drew _
  ·cases hd
 ·cases hd
end Go.Ev
namespace Go.Ev
open Go.RowKit
variable [qo]
def zbE (P:Program) (ops:Array Oper) (i:Nat) (s:St) (v:AV) (h':List zf):Prop:=
 ∀ (X:Ent) (a:Act) (w:World) (Q:Exit → Act → World → Prop) (K:Act → World → Prop),Sim X s a w → (∀ a' w',Sim X ⟨kN s.t (vD ops i) v,h'⟩ a' w' → K a' w') → wpOp P ops Q i K a w
structure QQ where
 v:AV
 eff:Bool
 W:List Nat
 R:List Nat
def recC (r:QQ):Rec:=⟨r.v,[],r.R⟩
def jN (ops:Array Oper) (rs:List QQ) (t:List AV) (D:Nat → Bool) (n:Nat):List AV:=(stD ops (rs.map recC) ⟨t,[]⟩ D n).t
def jO (rs:List QQ) (i:Nat):Bool:=match rs[i]? with
 | some r=>r.eff
 | none=>false
def kW (rs:List QQ) (hs:List (List zf)) (D:Nat → Bool):Nat → List zf
 | 0=>hs.getD 0 []
 | n + 1=>bif D n && jO rs n then hs.getD (n + 1) [] else kW rs hs D n
structure zap (P:Program) (ops:Array Oper) (t:List AV) (rs:List QQ) (hs:List (List zf)) (j:Nat) (r:QQ):Prop where
 get:rs[j]?=some r
 quiet:r.eff=false → ∀ s':St,(∀ d,d ∈ jG ops j → s'.t[d]?=(jN ops rs t (fun _=>true) j)[d]?) → (∀ id,id ∈ r.R → s'.h[id]?=(hs.getD j [])[id]?) → zbE P ops j s' r.v s'.h
 same:r.eff=false → hs.getD (j + 1) []=hs.getD j []
 step:r.eff=true → ∀ s':St,(∀ d,d ∈ jG ops j → s'.t[d]?=(jN ops rs t (fun _=>true) j)[d]?) → s'.h=hs.getD j [] → zbE P ops j s' r.v (hs.getD (j + 1) [])
 keep:r.eff=true → ∀ id,id ∉ r.W → (hs.getD (j + 1) [])[id]?=(hs.getD j [])[id]?
def Kj (ops:Array Oper) (rs:List QQ):Bool:=let T:=ZU ops ops.size
 (List.range rs.length).all fun j=>(List.range j).all fun i=>match rs[i]?,rs[j]? with
  | some a,some b=>match a.eff,b.eff with
   | true,true=>(T.getD j 0).testBit i
   | true,false=>(T.getD j 0).testBit i || b.R.all (fun id=>!a.W.contains id)
   | false,true=>(T.getD j 0).testBit i || a.R.all (fun id=>!b.W.contains id)
   | false,false=>true
  | _,_=>true
theorem vC {ops:Array Oper} {rs:List QQ} (h:Kj ops rs=true) {i j:Nat} {a b:QQ} (hij:i < j) (ha:rs[i]?=some a) (hb:rs[j]?=some b) :
  ((ZU ops ops.size).getD j 0).testBit i=true ∨ (a.eff=true ∧ b.eff=false ∧ ∀ id,id ∈ b.R → id ∉ a.W) ∨ (a.eff=false ∧ b.eff=true ∧ ∀ id,id ∈ a.R → id ∉ b.W) ∨ (a.eff=false ∧ b.eff=false):=by
 have hj:j < rs.length:=(List.getElem?_eq_some_iff.1 hb).1
 have:=List.all_eq_true.1 (List.all_eq_true.1 h j (List.mem_range.2 hj)) i (List.mem_range.2 hij)
 rw [ha,hb] at this
 simp only at this
 cases ea:a.eff <;> cases eb:b.eff <;> rw [ea,eb] at this <;> simp only [Bool.or_eq_true] at this
 ·exact .inr (.inr (.inr ⟨rfl,rfl⟩))
 ·rcases this with h1 | h1
  ·exact .inl h1
  ·refine .inr (.inr (.inl ⟨rfl,rfl,fun id hid=>?_⟩))
   have:=List.all_eq_true.1 h1 id hid
   simpa using this
 ·rcases this with h1 | h1
  ·exact .inl h1
  ·refine .inr (.inl ⟨rfl,rfl,fun id hid=>?_⟩)
   have:=List.all_eq_true.1 h1 id hid
   simpa using this
 ·exact .inl this
theorem ZS {rs:List QQ} {hs:List (List zf)} {D:Nat → Bool}:∀ (n m:Nat),m ≤ n → (∀ i,m ≤ i → i < n → D i=true → jO rs i=false) → kW rs hs D n=kW rs hs D m
 | 0,m,hm,_=>by rw [Nat.le_zero.1 hm]
 | n + 1,m,hm,h=>by
  by_cases e:m=n + 1
  ·rw [e]
  ·simp only [kW]
   have:(D n && jO rs n)=false:=by
    cases hd:D n
    ·rfl
    ·rw [h n (by omega) (by omega) hd];rfl
   rw [this]
   simp only [cond_false]
   exact ZS n m (by omega) fun i h1 h2=>h i h1 (by omega)
theorem Yu {P:Program} {ops:Array Oper} {t:List AV} {rs:List QQ} {hs:List (List zf)} {Q:Exit → Act → World → Prop} {X:Ent}
  (hsl:qV ops=true) (hch:Kj ops rs=true) (hlen:rs.length=ops.size)
  (htext:∀ j,j < ops.size → ∃ r,zap P ops t rs hs j r)
  (hQ:∀ a w,Sim X ⟨jN ops rs t (fun _=>true) ops.size,hs.getD ops.size []⟩ a w → Q .normal a w) :
  ∀ (fuel:Nat) (listed:Array Bool) (a:Act) (w:World),listed.size=ops.size → K0 (fun i=>listed.getD i false) ops.size ≤ fuel →
   (∀ j,listed.getD j false=true → ∀ p,p ∈ vJ ops j → listed.getD p false=true) →
   Sim X ⟨jN ops rs t (fun i=>listed.getD i false) ops.size,kW rs hs (fun i=>listed.getD i false) ops.size⟩ a w → wpAny P .any ops Q fuel listed a w:=by
 simp only [qV,Bool.and_eq_true] at hsl
 obtain ⟨hpr,hsl⟩:=hsl
 have slots:∀ i j,i < j → j < ops.size → ((ZU ops ops.size).getD j 0).testBit i=true ∨ qu ops i j=true:=fun i j hij hj=>by
  have:=vT hsl hij hj
  simpa using this
 have effR:∀ {i:Nat} {r:QQ},rs[i]?=some r → jO rs i=r.eff:=fun h=>by simp [jO,h]
 have hsame:∀ i,i < ops.size → jO rs i=false → hs.getD (i + 1) []=hs.getD i []:=fun i hi he=>by
  obtain ⟨r,hr⟩:=htext i hi
  rw [effR hr.get] at he
  exact hr.same he
 have htxt:∀ n,n ≤ ops.size → kW rs hs (fun _=>true) n=hs.getD n []:=fun n=>by
  induction n with
  | zero=>intro _;rfl
  | succ n ih =>
   intro hn
   simp only [kW,Bool.true_and]
   cases he:jO rs n with
   | true=>rfl
   | false =>
    simp only [cond_false]
    rw [ih (by omega)]
    exact (hsame n (by omega) he).symm
 have allOf:∀ (listed:Array Bool),(∀ i,i < ops.size → listed.getD i false=true) → jN ops rs t (fun i=>listed.getD i false) ops.size=jN ops rs t (fun _=>true) ops.size ∧ kW rs hs (fun i=>listed.getD i false) ops.size=hs.getD ops.size []:=fun listed hall=>by
  have h1:∀ n,n ≤ ops.size → stD ops (rs.map recC) ⟨t,[]⟩ (fun i=>listed.getD i false) n=stD ops (rs.map recC) ⟨t,[]⟩ (fun _=>true) n:=by
   intro n
   induction n with
   | zero=>intro _;rfl
   | succ n ih=>intro hn;simp only [stD];rw [ih (by omega)];simp only [hall n (by omega)]
  have h2:∀ n,n ≤ ops.size → kW rs hs (fun i=>listed.getD i false) n=kW rs hs (fun _=>true) n:=by
   intro n
   induction n with
   | zero=>intro _;rfl
   | succ n ih=>intro hn;simp only [kW];rw [ih (by omega)];simp only [hall n (by omega)]
  refine ⟨?_,?_⟩
  ·unfold jN;rw [h1 _ (Nat.le_refl _)]
  ·rw [h2 _ (Nat.le_refl _),htxt _ (Nat.le_refl _)]
 have readyAll:∀ (listed:Array Bool),listed.size=ops.size → Region.ready .any ops listed=[] → ∀ i,i < ops.size → listed.getD i false=true:=fun listed hsz hr i=>by
  induction i using Nat.strongRecOn with
  | _ i ih =>
   intro hi
   cases hd:listed.getD i false with
   | true=>rfl
   | false =>
    exfalso
    have hmem:i ∈ Region.ready .any ops listed:=by
     rw [mem_ready]
     have hi':i < listed.size:=by omega
     have ho:ops[i]?=some ops[i]:=Array.getElem?_eq_getElem hi
     refine ⟨?_,ops[i],ho,fun e he hbd=>?_⟩
     ·simp only [Array.getD_eq_getD_getElem?,Array.getElem?_eq_getElem hi',Option.getD_some] at hd ⊢;exact hd
     ·have hp:e.on ∈ vJ ops i:=by
       unfold vJ;rw [ho]
       exact List.mem_filterMap.2 ⟨e,by simpa using he,by rw [if_pos hbd]⟩
      have hlt:=vZ hpr i hi _ hp
      exact ih e.on hlt (by omega)
    rw [hr] at hmem;cases hmem
 intro fuel
 induction fuel with
 | zero =>
  intro listed a w hsz hcnt hdown hs'
  have hall:=Zj (Nat.le_zero.1 hcnt)
  obtain ⟨e1,e2⟩:=allOf listed hall
  refine ⟨?_,hQ a w (by rw [← e1,← e2];exact hs')⟩
  cases hr:Region.ready .any ops listed with
  | nil=>rfl
  | cons i l =>
   have hm:i ∈ Region.ready .any ops listed:=by rw [hr];simp
   obtain ⟨h0,o,ho,_⟩:=mem_ready.1 hm
   have hi:i < ops.size:=(Array.getElem?_eq_some_iff.1 ho).1
   have h1:=hall i hi
   simp only [Array.getD_eq_getD_getElem?,Array.getElem?_eq_getElem (show i < listed.size by omega),Option.getD_some] at h0 h1
   rw [h0] at h1;cases h1
 | succ fuel ih =>
  intro listed a w hsz hcnt hdown hs'
  refine ⟨fun hr=>?_,fun j hj=>?_⟩
  ·obtain ⟨e1,e2⟩:=allOf listed (readyAll listed hsz hr)
   exact hQ a w (by rw [← e1,← e2];exact hs')
  obtain ⟨h0,o,ho,hpre⟩:=mem_ready.1 hj
  have hjl:j < ops.size:=(Array.getElem?_eq_some_iff.1 ho).1
  have hD:listed.getD j false=false:=by
   simp only [Array.getD_eq_getD_getElem?,Array.getElem?_eq_getElem (show j < listed.size by omega),Option.getD_some] at h0 ⊢;exact h0
  have hpreds:∀ p,p ∈ vJ ops j → listed.getD p false=true:=fun p hp=>by
   unfold vJ at hp;rw [ho] at hp
   obtain ⟨e,he,heq⟩:=List.mem_filterMap.1 hp
   split at heq
   ·rename_i hbd;cases heq;exact hpre e (by simpa using he) hbd
   ·cases heq
  obtain ⟨r,ht⟩:=htext j hjl
  have hr:=ht.get
  have ancDone:∀ i,((ZU ops ops.size).getD j 0).testBit i=true → listed.getD i false=true:=fun i hanc =>
   k5 (D:=fun i=>listed.getD i false) hdown ops.size j i hjl hanc hpreds
  have ancLate:∀ i,i < ops.size → ((ZU ops ops.size).getD i 0).testBit j=true → listed.getD i false=false:=fun i hi hanc=>by
   cases hdi:listed.getD i false with
   | false=>rfl
   | true =>
    have:=k5 (D:=fun i=>listed.getD i false) hdown ops.size i j hi hanc (fun p hp=>hdown i hdi p hp)
    have h9:listed.getD j false=true:=this
    rw [hD] at h9;cases h9
  have agree:∀ i,i < ops.size → (i < j → qu ops i j=false → listed.getD i false=true) ∧ (j < i → qu ops j i=false → listed.getD i false=false):=fun i hi =>
   ⟨fun hij hc=>ancDone i ((slots i j hij hjl).resolve_right (by rw [hc];simp)),fun hij hc=>ancLate i hi ((slots j i hij hi).resolve_right (by rw [hc];simp))⟩
  have pre:∀ n,j ≤ n → stD ops (rs.map recC) ⟨t,[]⟩ (fun i=>decide (i < j)) n=stD ops (rs.map recC) ⟨t,[]⟩ (fun _=>true) j:=by
   have below:∀ n,n ≤ j → stD ops (rs.map recC) ⟨t,[]⟩ (fun i=>decide (i < j)) n=stD ops (rs.map recC) ⟨t,[]⟩ (fun _=>true) n:=by
    intro n
    induction n with
    | zero=>intro _;rfl
    | succ n ihn=>intro hn;simp only [stD];rw [ihn (by omega)];simp [show n < j by omega]
   intro n
   induction n with
   | zero =>
    intro hn
    have h9:=below 0 (Nat.zero_le _)
    have e0:j=0:=by omega
    rw [h9,e0]
   | succ n ihn =>
    intro hn
    by_cases e:j=n + 1
    ·rw [← e];exact below j (Nat.le_refl _)
    ·simp only [stD];simp [show ¬ n < j by omega];exact ihn (by omega)
  have tslot:∀ d,d ∈ jG ops j → (jN ops rs t (fun i=>listed.getD i false) ops.size)[d]?=(jN ops rs t (fun _=>true) j)[d]?:=fun d hd=>by
   unfold jN
   rw [← pre ops.size (Nat.le_of_lt hjl)]
   refine QK _ fun i hi hdst=>?_
   have hlook:(jG ops j).contains d=true:=by simpa using hd
   rcases Nat.lt_trichotomy i j with h1 | h1 | h1
   ·simp only [h1,decide_true]
    exact (agree i hi).1 h1 (by simp only [qu,hdst,hlook];simp)
   ·subst h1;simp only [hD];simp
   ·have:=(agree i hi).2 h1 (by simp only [qu,hdst,hlook];simp)
    simp only [this];simp;omega
  have hset:∀ i,i ≠ j → (listed.setIfInBounds j true).getD i false=listed.getD i false:=fun i hi=>getD_set_ne false (Ne.symm hi)
  have hsetj:(listed.setIfInBounds j true).getD j false=true:=by simp [show j < listed.size by omega]
  have bnd:Bnd (rs.map recC) 0:=fun i id hid=>by
   unfold wE at hid
   rw [List.getElem?_map] at hid
   cases hri:rs[i]? with
   | none=>rw [hri] at hid;simp at hid
   | some q=>rw [hri] at hid;simp [recC] at hid
  have hslotS:kN (jN ops rs t (fun i=>listed.getD i false) ops.size) (vD ops j) r.v=jN ops rs t (fun i=>(listed.setIfInBounds j true).getD i false) ops.size:=by
   unfold jN
   rw [xY (D:=fun i=>listed.getD i false) bnd rfl hD hsetj hset ops.size hjl]
   ·unfold QC
    rw [ho,List.getElem?_map,hr]
    simp only [Option.map_some,recC,vD,ho,Option.bind_some]
   ·intro i h1 h2 hDi
    have hDi:listed.getD i false=true:=hDi
    have hno:=(agree i h2).2 h1
    refine ⟨fun x hx hxi=>?_,fun x hx hxi=>?_⟩
    ·have:=hno (by simp only [qu,hx,hxi];simp)
     rw [hDi] at this;cases this
    ·have:=bnd j x hx;omega
  have next:∀ h',h'=kW rs hs (fun i=>(listed.setIfInBounds j true).getD i false) ops.size → ∀ a' w',Sim X ⟨kN (jN ops rs t (fun i=>listed.getD i false) ops.size) (vD ops j) r.v,h'⟩ a' w' → wpAny P .any ops Q fuel (listed.setIfInBounds j true) a' w':=fun h' he a' w' hs2=>by
   refine ih (listed.setIfInBounds j true) a' w' (by simpa using hsz) ?_ ?_ ?_
   ·have:=(QN (D:=fun i=>listed.getD i false) (D':=fun i=>(listed.setIfInBounds j true).getD i false) hD hsetj hset ops.size).2 hjl
    omega
   ·intro k hk p hp
    by_cases e:k=j
    ·subst e
     exact getD_set_true (hpreds p hp)
    ·rw [hset k e] at hk
     exact getD_set_true (hdown k hk p hp)
   ·rw [← hslotS,← he];exact hs2
  cases he:r.eff with
  | true =>
   have ea:jO rs j=true:=by rw [effR hr];exact he
   have early:∀ i,i < j → jO rs i=true → listed.getD i false=true:=fun i hij hei=>by
    obtain ⟨q,hq⟩:=htext i (by omega)
    rw [effR hq.get] at hei
    rcases vC hch hij hq.get hr with h1 | ⟨_,h1,_⟩ | ⟨h1,_⟩ | ⟨h1,_⟩
    ·exact ancDone i h1
    ·rw [he] at h1;cases h1
    ·rw [hei] at h1;cases h1
    ·rw [hei] at h1;cases h1
   have late:∀ i,j < i → i < ops.size → jO rs i=true → listed.getD i false=false:=fun i hij hi hei=>by
    obtain ⟨q,hq⟩:=htext i hi
    rw [effR hq.get] at hei
    rcases vC hch hij hr hq.get with h1 | ⟨_,h1,_⟩ | ⟨h1,_⟩ | ⟨h1,_⟩
    ·exact ancLate i hi h1
    ·rw [hei] at h1;cases h1
    ·rw [he] at h1;cases h1
    ·rw [he] at h1;cases h1
   have below:∀ n,n ≤ j → kW rs hs (fun i=>listed.getD i false) n=hs.getD n []:=fun n=>by
    induction n with
    | zero=>intro _;rfl
    | succ n ihn =>
     intro hn
     simp only [kW]
     cases hen:jO rs n with
     | true=>rw [early n (by omega) hen];rfl
     | false =>
      simp only [Bool.and_false,cond_false]
      rw [ihn (by omega),hsame n (by omega) hen]
   have hh:kW rs hs (fun i=>listed.getD i false) ops.size=hs.getD j []:=by
    rw [ZS ops.size j (Nat.le_of_lt hjl) fun i h1 h2 hd=>?_,below j (Nat.le_refl _)]
    cases hei:jO rs i with
    | false=>rfl
    | true =>
     by_cases e:i=j
     ·subst e
      have hd:listed.getD i false=true:=hd
      rw [hD] at hd;cases hd
     ·have:=late i (by omega) h2 hei
      have hd:listed.getD i false=true:=hd
      rw [this] at hd;cases hd
   have hh':kW rs hs (fun i=>(listed.setIfInBounds j true).getD i false) ops.size=hs.getD (j + 1) []:=by
    rw [ZS ops.size (j + 1) (by omega) fun i h1 h2 hd=>?_]
    ·simp only [kW]
     rw [hsetj,ea];rfl
    ·cases hei:jO rs i with
     | false=>rfl
     | true =>
      have:=late i (by omega) h2 hei
      have hd:(listed.setIfInBounds j true).getD i false=true:=hd
      rw [hset i (by omega),this] at hd;cases hd
   exact ht.step he ⟨jN ops rs t (fun i=>listed.getD i false) ops.size,kW rs hs (fun i=>listed.getD i false) ops.size⟩ tslot hh X a w Q _ hs' (next _ hh'.symm)
  | false =>
   have ea:jO rs j=false:=by rw [effR hr];exact he
   have keepA:∀ i,i < j → jO rs i=true → listed.getD i false=false → ∀ id,id ∈ r.R → (hs.getD (i + 1) [])[id]?=(hs.getD i [])[id]?:=fun i hij hei hni id hid=>by
    obtain ⟨q,hq⟩:=htext i (by omega)
    rw [effR hq.get] at hei
    refine hq.keep hei id ?_
    rcases vC hch hij hq.get hr with h1 | ⟨_,_,h1⟩ | ⟨h1,_⟩ | ⟨h1,_⟩
    ·rw [ancDone i h1] at hni;cases hni
    ·exact h1 id hid
    ·rw [hei] at h1;cases h1
    ·rw [hei] at h1;cases h1
   have keepB:∀ i,j < i → i < ops.size → jO rs i=true → listed.getD i false=true → ∀ id,id ∈ r.R → (hs.getD (i + 1) [])[id]?=(hs.getD i [])[id]?:=fun i hij hi hei hdi id hid=>by
    obtain ⟨q,hq⟩:=htext i hi
    rw [effR hq.get] at hei
    refine hq.keep hei id ?_
    rcases vC hch hij hr hq.get with h1 | ⟨h1,_⟩ | ⟨_,_,h1⟩ | ⟨_,h1⟩
    ·rw [ancLate i hi h1] at hdi;cases hdi
    ·rw [he] at h1;cases h1
    ·exact h1 id hid
    ·rw [hei] at h1;cases h1
   have pref:∀ i k,i < k → k < ops.size → jO rs i=true → jO rs k=true → listed.getD k false=true → listed.getD i false=true:=fun i k hik hk hei hek hdk=>by
    obtain ⟨q,hq⟩:=htext i (by omega)
    obtain ⟨p,hp⟩:=htext k hk
    rw [effR hq.get] at hei
    rw [effR hp.get] at hek
    rcases vC hch hik hq.get hp.get with h1 | ⟨_,h1,_⟩ | ⟨h1,_⟩ | ⟨h1,_⟩
    ·exact k5 (D:=fun i=>listed.getD i false) hdown ops.size k i hk h1 (fun p hp=>hdown k hdk p hp)
    ·rw [hek] at h1;cases h1
    ·rw [hei] at h1;cases h1
    ·rw [hei] at h1;cases h1
   have low:∀ n,n ≤ j → ∀ id,id ∈ r.R → (kW rs hs (fun i=>listed.getD i false) n)[id]?=(hs.getD n [])[id]?:=fun n=>by
    induction n with
    | zero=>intro _ _ _;rfl
    | succ n ihn =>
     intro hn id hid
     simp only [kW]
     cases hen:jO rs n with
     | true =>
      cases hdn:listed.getD n false with
      | true=>rfl
      | false =>
       simp only [Bool.false_and,cond_false]
       rw [ihn (by omega) id hid,keepA n (by omega) hen hdn id hid]
     | false =>
      simp only [Bool.and_false,cond_false]
      rw [ihn (by omega) id hid,hsame n (by omega) hen]
   have high:∀ n,j ≤ n → n ≤ ops.size → ∀ id,id ∈ r.R → (kW rs hs (fun i=>listed.getD i false) n)[id]?=(hs.getD j [])[id]?:=fun n=>by
    induction n with
    | zero=>intro h1 _ id hid;rw [low 0 (Nat.zero_le _) id hid,show j=0 by omega]
    | succ n ihn =>
     intro h1 h2 id hid
     by_cases e:j=n + 1
     ·rw [← e];exact low j (Nat.le_refl _) id hid
     ·simp only [kW]
      cases hen:jO rs n with
      | false=>simp only [Bool.and_false,cond_false];exact ihn (by omega) (by omega) id hid
      | true =>
       cases hdn:listed.getD n false with
       | false=>simp only [Bool.false_and,cond_false];exact ihn (by omega) (by omega) id hid
       | true =>
        simp only [Bool.true_and,cond_true]
        have hjn:j < n:=by
         rcases Nat.lt_trichotomy j n with h | h | h
         ·exact h
         ·subst h;rw [ea] at hen;cases hen
         ·omega
        have go:∀ m,j ≤ m → m ≤ n + 1 → (hs.getD m [])[id]?=(hs.getD j [])[id]?:=fun m=>by
         induction m with
         | zero=>intro h _;rw [show j=0 by omega]
         | succ m ihm =>
          intro h3 h4
          by_cases e2:j=m + 1
          ·rw [e2]
          ·rw [← ihm (by omega) (by omega)]
           cases hem:jO rs m with
           | false=>rw [hsame m (by omega) hem]
           | true =>
            have hjm:j < m:=by
             rcases Nat.lt_trichotomy j m with h | h | h
             ·exact h
             ·subst h;rw [ea] at hem;cases hem
             ·omega
            have hdm:listed.getD m false=true:=by
             by_cases e3:m=n
             ·rw [e3];exact hdn
             ·exact pref m n (by omega) (by omega) hem hen hdn
            exact keepB m hjm (by omega) hem hdm id hid
        exact go (n + 1) (by omega) (Nat.le_refl _)
   have hh':kW rs hs (fun i=>(listed.setIfInBounds j true).getD i false) ops.size=kW rs hs (fun i=>listed.getD i false) ops.size:=by
    have:∀ n,kW rs hs (fun i=>(listed.setIfInBounds j true).getD i false) n=kW rs hs (fun i=>listed.getD i false) n:=fun n=>by
     induction n with
     | zero=>rfl
     | succ n ihn =>
      simp only [kW]
      rw [ihn]
      by_cases e:n=j
      ·subst e;rw [ea];simp
      ·rw [hset n e]
    exact this _
   exact ht.quiet he ⟨jN ops rs t (fun i=>listed.getD i false) ops.size,kW rs hs (fun i=>listed.getD i false) ops.size⟩ tslot (high ops.size (Nat.le_of_lt hjl) (Nat.le_refl _)) X a w Q _ hs' (next _ hh'.symm)
theorem Run.chain {P:Program} {E:Env} (T:zE P E) {q:Nat} {id:Nat} {ops:Array Oper} {s:St} {rs:List QQ} {hs:List (List zf)} {Q:Exit → St → Prop} (hsl:qV ops=true) (hch:Kj ops rs=true) (hlen:rs.length=ops.size)
  (h0:hs.getD 0 []=s.h) (htext:∀ j,j < ops.size → ∃ r,zap P ops s.t rs hs j r) (h:Q .normal ⟨jN ops rs s.t (fun _=>true) ops.size,hs.getD ops.size []⟩):Run P q (.region id ops true) Q s:=fun X a w hX hs'=>by
 refine wp_region_any T.mixed ?_
 refine Yu (X:=X) hsl hch hlen htext (fun a' w' hs2=>⟨_,hs2,h⟩) ops.size _ a _ (by simp) ?_ ?_ ?_
 ·have:∀ (D:Nat → Bool) n,K0 D n ≤ n:=fun D n=>by
   induction n with
   | zero=>exact Nat.le_refl _
   | succ n ih=>simp only [K0];split <;> omega
  exact this _ _
 ·intro j hj
  have hf:(Array.replicate ops.size false).getD j false=false:=by
   simp only [Array.getD_eq_getD_getElem?,Array.getElem?_replicate];split <;> rfl
  rw [hf] at hj;cases hj
 ·have hf:∀ i,(Array.replicate ops.size false).getD i false=false:=fun i=>by
   simp only [Array.getD_eq_getD_getElem?,Array.getElem?_replicate];split <;> rfl
  have h1:∀ n,stD ops (rs.map recC) ⟨s.t,[]⟩ (fun i=>(Array.replicate ops.size false).getD i false) n=⟨s.t,[]⟩:=fun n=>by
   induction n with
   | zero=>rfl
   | succ n ih =>
    simp only [stD];rw [if_neg (by rw [hf n];simp)];exact ih
  have h2:∀ n,kW rs hs (fun i=>(Array.replicate ops.size false).getD i false) n=s.h:=fun n=>by
   induction n with
   | zero=>exact h0
   | succ n ih=>simp only [kW];rw [hf n];exact ih
  rw [h2]
  unfold jN
  rw [h1]
  exact hs'.drew _
structure vL (P:Program) (ops:Array Oper) (i:Nat) (s:St) (r:QQ) (h':List zf):Prop where
 quiet:r.eff=false → ∀ s':St,(∀ d,d ∈ jG ops i → s'.t[d]?=s.t[d]?) → (∀ id,id ∈ r.R → s'.h[id]?=s.h[id]?) → zbE P ops i s' r.v s'.h
 same:r.eff=false → h'=s.h
 step:r.eff=true → ∀ s':St,(∀ d,d ∈ jG ops i → s'.t[d]?=s.t[d]?) → s'.h=s.h → zbE P ops i s' r.v h'
 keep:r.eff=true → ∀ id,id ∉ r.W → h'[id]?=s.h[id]?
inductive xF (P:Program) (ops:Array Oper):Nat → St → List QQ → List (List zf) → St → Prop
 | nil (i:Nat) (s:St):xF P ops i s [] [] s
 | cons {i:Nat} {s:St} {r:QQ} {h':List zf} {rs:List QQ} {hs:List (List zf)} {s':St} (st:vL P ops i s r h') (t:xF P ops (i + 1) ⟨kN s.t (vD ops i) r.v,h'⟩ rs hs s'):xF P ops i s (r :: rs) (h' :: hs) s'
theorem xF.spec {P:Program} {ops:Array Oper} {t0:List AV} {all:List QQ} {hall:List (List zf)} {i:Nat} {s:St} {rs:List QQ} {hs:List (List zf)} {s':St} (h:xF P ops i s rs hs s'):∀ (pre:List QQ) (hpre:List (List zf)),
  all=pre ++ rs → hall=hpre ++ hs → pre.length=i → hpre.length=i + 1 → (∀ j,j < i + rs.length → j < ops.size) → s.t=jN ops all t0 (fun _=>true) i → s.h=hall.getD i [] →
  s'.t=jN ops all t0 (fun _=>true) (i + rs.length) ∧ s'.h=hall.getD (i + rs.length) [] ∧ ∀ j,i ≤ j → j < i + rs.length → ∃ r,zap P ops t0 all hall j r:=by
 induction h with
 | nil i s=>intro pre hpre _ _ _ _ _ h1 h2;exact ⟨h1,h2,fun j a b=>by simp at b;omega⟩
 | @cons i s r h' rs hs s' st t ih =>
  intro pre hpre ha hh hp hhp hsz h1 h2
  have hi:i < ops.size:=hsz i (by simp only [List.length_cons];omega)
  have hget:all[i]?=some r:=by rw [ha,List.getElem?_append_right (by omega),hp];simp
  have hnext:hall.getD (i + 1) []=h':=by
   rw [hh,List.getD_eq_getElem?_getD,List.getElem?_append_right (by omega),hhp];simp
  obtain ⟨g1,g2,g3⟩:=ih (pre ++ [r]) (hpre ++ [h']) (by rw [ha];simp) (by rw [hh];simp) (by simp [hp]) (by simp [hhp]) (fun j hj=>hsz j (by simp only [List.length_cons];omega)) (by
   simp only [jN,stD,if_true,QC]
   have ho:ops[i]?=some ops[i]:=Array.getElem?_eq_getElem hi
   rw [ho,List.getElem?_map,hget]
   simp only [Option.map_some,recC,vD,ho,Option.bind_some]
   rw [h1];rfl) hnext.symm
  refine ⟨by rw [g1];congr 1;simp only [List.length_cons];omega,by rw [g2];congr 1;simp only [List.length_cons];omega,fun j a b=>?_⟩
  by_cases e:j=i
  ·subst e
   refine ⟨r,hget,fun he s' q1 q2=>st.quiet he s' (fun d hd=>(q1 d hd).trans (by rw [h1])) (fun id hid=>(q2 id hid).trans (by rw [h2])),fun he=>by rw [hnext,st.same he,h2],fun he s' q1 q2=>?_,fun he id hid=>?_⟩
   ·rw [hnext]
    exact st.step he s' (fun d hd=>(q1 d hd).trans (by rw [h1])) (q2.trans h2.symm)
   ·rw [hnext,← h2];exact st.keep he id hid
  ·exact g3 j (by omega) (by simp only [List.length_cons] at b;omega)
theorem Run.zlt {P:Program} {E:Env} (T:zE P E) {q:Nat} {id:Nat} {ops:Array Oper} {s s':St} {rs:List QQ} {hs:List (List zf)} {Q:Exit → St → Prop} (hsl:qV ops=true) (hch:Kj ops rs=true) (hlen:rs.length=ops.size)
  (ht:xF P ops 0 s rs hs s') (h:Q .normal s'):Run P q (.region id ops true) Q s:=by
 obtain ⟨g1,g2,g3⟩:=ht.spec (t0:=s.t) (all:=rs) (hall:=s.h :: hs) [] [s.h] rfl rfl rfl rfl (fun j hj=>by omega) rfl rfl
 rw [Nat.zero_add,hlen] at g1 g2 g3
 refine Run.chain T hsl hch hlen (hs:=s.h :: hs) rfl (fun j hj=>g3 j (Nat.zero_le _) (by omega)) ?_
 obtain ⟨t',h'⟩:=s'
 simp only at g1 g2
 rw [← g1,← g2];exact h
def zkn:Op → Bool
 | .move _ | .pick .. | .load .. | .nilCheck _ | .binOp .. | .unOp .. | .makeFunc .. | .fieldAddr .. | .indexAddr .. | .index .. | .field .. | .extract .. | .lookup .. | .build ..=>true
 | .assign (.tmp _)=>true
 | .call { callee:=.builtin .len,args:=_,argTypes:=_ }=>true
 | _=>false
theorem zh9 (E:Env) {op:Op} (hn:zkn op=true) (ty:TypeId) (t:List AV) (h:List zf) (nw nw':Nat):kE E op ty t h nw=kE E op ty t h nw':=by
 cases op with
 | assign x=>cases x <;> first | rfl | cases hn
 | makeFunc f a b=>cases f <;> rfl
 | call c =>
  obtain ⟨callee,args,ats⟩:=c
  cases callee with
  | builtin b=>cases b <;> first | (cases hn;done) | rfl
  | _=>cases hn
 | _=>first | rfl | cases hn
section
variable {P:Program} {E:Env} (T:zE P E) {ops:Array Oper} {i:Nat} {o:Oper} {s:St}
theorem Zt (hi:ops[i]?=some o) {s':St} (ht:∀ d,d ∈ jG ops i → s'.t[d]?=s.t[d]?):(∀ x,x ∈ o.op.operands → opd s'.t x=opd s.t x) ∧ zC ops s'.t o=zC ops s.t o:=by
 have ht':∀ d,d ∈ o.looksAt ops → s'.t[d]?=s.t[d]?:=fun d hd=>ht d (by simp only [jG,hi];exact hd)
 refine ⟨fun x hx=>?_,?_⟩
 ·cases x with
  | tmp d=>exact ht' d (List.mem_append_left _ (List.mem_filterMap.2 ⟨.tmp d,by simpa using hx,rfl⟩))
  | _=>rfl
 ·unfold zC
  cases hg:o.guard with
  | none=>rfl
  | some gw =>
   obtain ⟨g,want⟩:=gw
   simp only []
   cases hd:(ops[g]?).bind (·.dst) with
   | none=>rfl
   | some d=>simp only [Option.bind_some];rw [ht' d (by simp [Oper.looksAt,hg,hd])]
theorem vL.skip (hi:ops[i]?=some o) (hw:zC ops s.t o=some false):vL P ops i s ⟨.und,false,[],[]⟩ s.h where
 quiet:=fun _ s' ht _ X a w Q K hs hk=>by
  obtain ⟨_,h2⟩:=Zt (s:=s) hi ht
  refine Xa hi (h2.trans hw) hs fun a' w' h=>hk a' w' ?_
  simpa [vD,hi] using h
 same:=fun _=>rfl
 step:=fun h=>by cases h
 keep:=fun h=>by cases h
include T
theorem vL.look {v:AV} (hi:ops[i]?=some o) (hw:zC ops s.t o=some true) (hn:zkn o.op=true) {nw:Nat} (hv:kE E o.op o.type s.t s.h nw=some (v,[])):vL P ops i s ⟨v,false,[],if Ji o.op then [] else o.op.operands.toList.flatMap (zf6 s.t)⟩ s.h where
 quiet:=fun _ s' ht hh X a w Q K hs hk=>by
  obtain ⟨h1,h2⟩:=Zt (s:=s) hi ht
  have hE:kE E o.op o.type s'.t s'.h s'.h.length=some (v,[]):=by
   rw [← hv]
   cases hm:Ji o.op with
   | true =>
    generalize o.op=op at hm h1
    cases op <;> first | (cases hm;done) | skip
    rename_i x
    simp only [kE,h1 x (by simp [Op.operands])]
   | false =>
    rw [zh9 E hn o.type s.t s.h nw s'.h.length]
    refine Zz E o.op o.type _ fun x hx=>⟨h1 x hx,fun v hv id hid=>hh id ?_⟩
    rw [hm]
    simp only [Bool.false_eq_true,if_false]
    exact List.mem_flatMap.2 ⟨x,by simpa using hx,by unfold zf6;rw [hv];exact hid⟩
  refine YP T hi (h2.trans hw) (.inl rfl) (U:=[]) (v:=v) (by unfold ZM;rw [hE]) hs fun a' w' h=>hk a' w' ?_
  simpa [vD,hi,app] using h
 same:=fun _=>rfl
 step:=fun h=>by cases h
 keep:=fun h=>by cases h
theorem zbk:∀ (U:List (Nat × zf)) (h:List zf) (id:Nat),id ∉ U.map (·.1) → id < h.length → (app h U)[id]?=h[id]?
 | [],_,_,_,_=>rfl
 | (i,k) :: U,h,id,hn,hl=>by
  simp only [List.map_cons,List.mem_cons,not_or] at hn
  simp only [app,qW]
  split
  ·rw [zbk U _ id hn.2 (by simpa using hl),List.getElem?_set_ne (Ne.symm hn.1)]
  ·rw [zbk U _ id hn.2 (by simp;omega),List.getElem?_append_left hl]
omit T in
theorem zlK {h:List zf} {i id:Nat} {k:zf} (hi:i ≤ h.length) (hne:id ≠ i):(qW h i k)[id]?=h[id]?:=qR hi hne
theorem vL.turn {v:AV} {U:List (Nat × zf)} (hi:ops[i]?=some o) (hw:zC ops s.t o=some true) (hv:kE E o.op o.type s.t s.h s.h.length=some (v,U)) (hU:U.all (fun p=>decide (p.1 ≤ s.h.length))=true):vL P ops i s ⟨v,true,U.map (·.1),[]⟩ (app s.h U) where
 quiet:=fun h=>by cases h
 same:=fun h=>by cases h
 step:=fun _ s' ht hh X a w Q K hs hk=>by
  obtain ⟨h1,h2⟩:=Zt (s:=s) hi ht
  have hE:kE E o.op o.type s'.t s'.h s'.h.length=some (v,U):=by
   rw [hh,← hv]
   exact Zz E o.op o.type _ fun x hx=>⟨h1 x hx,fun _ _ _ _=>rfl⟩
  refine YP T hi (h2.trans hw) (.inl rfl) (by unfold ZM;rw [hE]) hs fun a' w' h=>hk a' w' ?_
  rw [hh] at h
  simpa [vD,hi] using h
 keep:=fun _ id hid=>by
  have:∀ (U:List (Nat × zf)) (h:List zf),s.h.length ≤ h.length → U.all (fun p=>decide (p.1 ≤ s.h.length))=true → id ∉ U.map (·.1) → (app h U)[id]?=h[id]?:=fun U=>by
   induction U with
   | nil=>intro h _ _ _;rfl
   | cons p U ih =>
    intro h hl hb hn
    obtain ⟨j,k⟩:=p
    simp only [List.map_cons,List.mem_cons,not_or] at hn
    simp only [List.all_cons,Bool.and_eq_true,decide_eq_true_eq] at hb
    simp only [app]
    rw [ih _ (by unfold qW;split <;> simp <;> omega) hb.2 hn.2]
    exact qR (by omega) hn.1
  exact this U s.h (Nat.le_refl _) hU hid
omit T
theorem vL.call {f:FuncId} {args:List AV} {r:AV} {h':List zf} (W:List Nat) (hi:ops[i]?=some o) (hw:zC ops s.t o=some true) (hc:q9 s.t o=some (f,args)) (G:Good P f args s.h r h') (hk:∀ id,id ∉ W → h'[id]?=s.h[id]?):vL P ops i s ⟨r,true,W,[]⟩ h' where
 quiet:=fun h=>by cases h
 same:=fun h=>by cases h
 step:=fun _ s' ht hh X a w Q K hs hk2=>by
  obtain ⟨h1,h2⟩:=Zt (s:=s) hi ht
  have hc':q9 s'.t o=some (f,args):=by rw [yy h1];exact hc
  obtain ⟨c,fo,fv,as1,caps,q1,q2,q3,q4,q5,rfl⟩:=vq hc'
  refine Ks hi (h2.trans hw) q1 q2 q3 q5 q4 (by rw [hh];exact G) hs fun a' w' h=>hk2 a' w' ?_
  simpa [vD,hi] using h
 keep:=fun _=>hk
theorem vL.zm5 {f:FuncId} {args:List AV} {r:AV} (R:List Nat) (hi:ops[i]?=some o) (hw:zC ops s.t o=some true) (hc:q9 s.t o=some (f,args)) (G:∀ h':List zf,(∀ id,id ∈ R → h'[id]?=s.h[id]?) → Good P f args h' r h'):vL P ops i s ⟨r,false,[],R⟩ s.h where
 quiet:=fun _ s' ht hh X a w Q K hs hk2=>by
  obtain ⟨h1,h2⟩:=Zt (s:=s) hi ht
  have hc':q9 s'.t o=some (f,args):=by rw [yy h1];exact hc
  obtain ⟨c,fo,fv,as1,caps,q1,q2,q3,q4,q5,rfl⟩:=vq hc'
  refine Ks hi (h2.trans hw) q1 q2 q3 q5 q4 (G s'.h hh) hs fun a' w' h=>hk2 a' w' ?_
  simpa [vD,hi] using h
 same:=fun _=>rfl
 step:=fun h=>by cases h
 keep:=fun h=>by cases h
end
def zaZ:List zf → List zf → Nat → List Nat
 | [],m,n=>(List.range m.length).map (n + ·)
 | _ :: l,[],n=>n :: zaZ l [] (n + 1)
 | a :: l,b :: m,n=>if a.same b then zaZ l m (n + 1) else n :: zaZ l m (n + 1)
theorem xW:∀ (l m:List zf) (n id:Nat),(n + id) ∉ zaZ l m n → m[id]?=l[id]?
 | [],m,n,id,h=>by
  rw [List.getElem?_nil]
  refine List.getElem?_eq_none ?_
  rcases Nat.lt_or_ge id m.length with h1 | h1
  ·exact absurd (List.mem_map.2 ⟨id,List.mem_range.2 h1,rfl⟩) h
  ·exact h1
 | a :: l,b :: m,n,id,h=>by
  unfold zaZ at h
  split at h
  ·rename_i hs
   cases id with
   | zero=>simp [zf.jP a b hs]
   | succ id=>simpa using xW l m (n + 1) id (by rw [show n + 1 + id=n + (id + 1) by omega];exact h)
  ·simp only [List.mem_cons,not_or] at h
   cases id with
   | zero=>exact absurd (Nat.add_zero n) h.1
   | succ id=>simpa using xW l m (n + 1) id (by rw [show n + 1 + id=n + (id + 1) by omega];exact h.2)
 | a :: l,[],n,id,h=>by
  unfold zaZ at h
  simp only [List.mem_cons,not_or] at h
  cases id with
  | zero=>exact absurd (Nat.add_zero n) h.1
  | succ id=>simpa using xW l [] (n + 1) id (by rw [show n + 1 + id=n + (id + 1) by omega];exact h.2)
def vQ (E:Env) (K:FuncId → List AV → List zf → Option (AV × List zf)) (ops:Array Oper):Nat → Nat → St → Option (List QQ × St)
 | 0,_,s=>some ([],s)
 | k + 1,i,s=>match ops[i]? with
  | none=>none
  | some o=>match zC ops s.t o with
   | none=>none
   | some false=>(vQ E K ops k (i + 1) ⟨kN s.t o.dst .und,s.h⟩).map fun p=>(⟨.und,false,[],[]⟩ :: p.1,p.2)
   | some true=>if vN o then
     match q9 s.t o with
     | some (f,args)=>match K f args s.h with
      | some (r,h')=>(vQ E K ops k (i + 1) ⟨kN s.t o.dst r,h'⟩).map fun p=>(⟨r,true,zaZ s.h h' 0,[]⟩ :: p.1,p.2)
      | none=>none
     | none=>none
    else match kE E o.op o.type s.t s.h s.h.length with
     | some (v,U)=>if zkn o.op && U.isEmpty then
       (vQ E K ops k (i + 1) ⟨kN s.t o.dst v,s.h⟩).map fun p=>(⟨v,false,[],if Ji o.op then [] else o.op.operands.toList.flatMap (zf6 s.t)⟩ :: p.1,p.2)
      else if U.all (fun p=>decide (p.1 ≤ s.h.length)) then
       (vQ E K ops k (i + 1) ⟨kN s.t o.dst v,app s.h U⟩).map fun p=>(⟨v,true,U.map (·.1),[]⟩ :: p.1,p.2)
      else none
     | none=>none
theorem yp {P:Program} {E:Env} (T:zE P E) {K:FuncId → List AV → List zf → Option (AV × List zf)} (hK:∀ f args h r h',K f args h=some (r,h') → Good P f args h r h') {ops:Array Oper}:∀ (k i:Nat) (s:St) (rs:List QQ) (s':St),vQ E K ops k i s=some (rs,s') → rs.length=k ∧ ∃ hs,xF P ops i s rs hs s'
 | 0,i,s,rs,s',h=>by
  simp only [vQ,Option.some.injEq,Prod.mk.injEq] at h
  obtain ⟨rfl,rfl⟩:=h
  exact ⟨rfl,[],.nil i s⟩
 | k + 1,i,s,rs,s',h=>by
  have step:∀ {o:Oper} {r:QQ} {h1:List zf},ops[i]?=some o → vL P ops i s r h1 → (vQ E K ops k (i + 1) ⟨kN s.t o.dst r.v,h1⟩).map (fun p=>(r :: p.1,p.2))=some (rs,s') → rs.length=k + 1 ∧ ∃ hs,xF P ops i s rs hs s':=fun {o r h1} ho hr he=>by
   obtain ⟨⟨rs1,s1⟩,h2,h3⟩:=Option.map_eq_some_iff.1 he
   cases h3
   obtain ⟨g1,hs,g2⟩:=yp T hK k (i + 1) _ rs1 s1 h2
   refine ⟨by simp [g1],h1 :: hs,.cons hr ?_⟩
   have e:vD ops i=o.dst:=by simp [vD,ho]
   rw [e];exact g2
  unfold vQ at h
  split at h
  ·cases h
  ·rename_i o ho
   split at h
   ·cases h
   ·rename_i hw
    exact step ho (.skip ho hw) h
   ·rename_i hw
    split at h
    ·split at h
     ·rename_i f args hc
      split at h
      ·rename_i r h' hk
       exact step ho (.call _ ho hw hc (hK _ _ _ _ _ hk) fun id hid=>xW s.h h' 0 id (by rw [Nat.zero_add];exact hid)) h
      ·cases h
     ·cases h
    ·split at h
     ·rename_i v U hv
      split at h
      ·rename_i hc
       simp only [Bool.and_eq_true,List.isEmpty_iff] at hc
       obtain ⟨hn,rfl⟩:=hc
       exact step ho (.look T ho hw hn hv) h
      ·split at h
       ·rename_i hU
        exact step ho (.turn T ho hw hv hU) h
       ·cases h
     ·cases h
end Go.Ev
namespace Go.Ev
open Go.RowKit
variable [qo]
def zfW (P:Program):Env where
 und:=P.underlying
 size:=fun t=>(P.info? t).map (·.size)
 bytes:=fun t=>(P.info? t).map (·.bytes)
 zero:=fun t=>match P.info? t with
  | some i=>match i.zero with
   | some v=>Za v.cells.toList
   | none=>none
  | none=>none
 zval:=fun t=>match P.info? t with
  | some i=>match i.zero with
   | some v=>zjU v
   | none=>none
  | none=>none
 cmp:=fun t=>!P.stoodInHeld t && !P.eqGuardType P.depth t
theorem zhW {P:Program} (h:P.follows .mixedOrders=true):zE P (zfW P) where
 und:=fun _ _ h=>h
 size:=fun t n h=>by
  obtain ⟨i,hi,rfl⟩:=Option.map_eq_some_iff.1 h
  exact ⟨i,hi,rfl⟩
 bytes:=fun t n h=>by
  obtain ⟨i,hi,rfl⟩:=Option.map_eq_some_iff.1 h
  exact ⟨i,hi,rfl⟩
 zero:=fun t z h=>by
  simp only [zfW] at h
  split at h
  ·rename_i i hi
   split at h
   ·rename_i v hv;exact ⟨i,v,hi,hv,h⟩
   ·cases h
  ·cases h
 zval:=fun t z h=>by
  simp only [zfW] at h
  split at h
  ·rename_i i hi
   split at h
   ·rename_i v hv;exact ⟨i,v,hi,hv,h⟩
   ·cases h
  ·cases h
 cmp:=fun t h=>by
  simp only [zfW,Bool.and_eq_true,Bool.not_eq_true'] at h;exact h
 mixed:=h
def zmn (P:Program) (vec:TypeId → Bool):Env:={ zfW P with vec:=vec }
theorem zaN {P:Program} {vec:TypeId → Bool} (h:P.follows .mixedOrders=true):zE P (zmn P vec):=
 let T:=zhW h
 ⟨T.und,T.size,T.bytes,T.zero,T.zval,T.cmp,T.mixed⟩
theorem zn.sim {N:Nat → Prop} {h:List zf} {ρ:Nat → Pl} {w:World} {v:AV} {h':List zf} {x:Value} {w':World}:zn N h ρ w v h' x w' ↔ Sim ⟨N,h,ρ,w⟩ ⟨[v],h'⟩ ⟨#[x],[]⟩ w':=by
 constructor
 ·rintro ⟨⟨N',ρ',H,hr,K,hs⟩⟩
  refine ⟨N',ρ',H,⟨rfl,fun i u hu=>?_,H.glob⟩,?_,K,rfl⟩
  ·match i,hu with
   | 0,hu=>simp at hu;subst hu;exact ⟨x,rfl,hr⟩
   | i + 1,hu=>simp at hu
  ·simp only [AV.sc.scAll,Bool.and_true];exact hs
 ·rintro ⟨N',ρ',S⟩
  obtain ⟨y,hy,hr⟩:=S.slots.rep 0 v rfl
  have:y=x:=by simpa using hy.symm
  subst this
  have hs:=S.sc
  simp only [AV.sc.scAll,Bool.and_true] at hs
  exact ⟨⟨N',ρ',S.heap,hr,S.kept,hs⟩⟩
theorem Good.turn {P:Program} {f:FuncId} {args:List AV} {h h1 h2:List zf} {r r2:AV} (G:Good P f args h r h1) (ht:∀ (X:Ent) (a:Act) (w:World),X.h=h → Sim X ⟨[r],h1⟩ a w → Sim X ⟨[r2],h2⟩ a w):Good P f args h r2 h2:=
 fun w N ρ vs H hsc hl hrep=>(G w N ρ vs H hsc hl hrep).mono fun _ _ ho=>zn.sim.2 (ht _ _ _ rfl (zn.sim.1 ho))
def inB (q:Nat → Bool):zf → Bool
 | k=>AV.sc.scAll q k.avs
def stays (m:Nat) (r:AV) (h:List zf):Bool:=let q:=born (h.take m);r.sc q && (h.take m).all (inB q)
theorem xO {q:Nat → Bool} {v:AV} (h:v.sc q=true):ZB q v=v:=by simp [ZB,h]
theorem Vh {q:Nat → Bool} {k:zf} (h:inB q k=true):j7 q k=k:=by
 cases k with
 | box cs =>
  simp only [j7]
  congr 1
  have:∀ l:List AV,(∀ x,x ∈ l → x.sc q=true) → l.map (ZB q)=l:=fun l=>by
   induction l with
   | nil=>intro _;rfl
   | cons x l ih=>intro hl;simp only [List.map_cons];rw [xO (hl x (by simp)),ih fun y hy=>hl y (by simp [hy])]
  exact this cs (ze.1 h)
 | mp es c=>simp only [j7,zas fun v hv=>xO (ze.1 (show AV.sc.scAll q (zf.mp es c).avs=true from h) v hv)]
 | vec sz e xs=>simp only [j7,zef fun v hv=>xO (ze.1 (show AV.sc.scAll q (zf.vec sz e xs).avs=true from h) v hv)]
 | _=>rfl
theorem Good.trim {P:Program} {f:FuncId} {args:List AV} {h h1:List zf} {r:AV} (G:Good P f args h r h1) {m:Nat} (hm:h.length ≤ m) (hs:stays m r h1=true):Good P f args h r (h1.take m):=by
 simp only [stays,Bool.and_eq_true] at hs
 have e1:gc 1 m ⟨[r],h1⟩=⟨[r],h1.take m⟩:=by
  simp only [gc,List.take_succ_cons,List.take_zero,List.map_cons,List.map_nil,List.length_singleton,Nat.sub_self,List.replicate_zero,List.append_nil]
  rw [xO hs.1]
  congr 1
  have:∀ l:List zf,(∀ x,x ∈ l → inB (born (h1.take m)) x=true) → l.map (j7 (born (h1.take m)))=l:=fun l=>by
   induction l with
   | nil=>intro _;rfl
   | cons x l ih=>intro hl;simp only [List.map_cons];rw [Vh (hl x (by simp)),ih fun y hy=>hl y (by simp [hy])]
  exact this _ (List.all_eq_true.1 hs.2)
 exact G.turn fun X a w hX h2=>by rw [← e1];exact h2.gc 1 m (by rw [hX];exact hm)
def yY:Nat → St → St
 | 0,s=>s
 | n + 1,s=>freeze n (yY n s)
theorem Sim.yY {X:Ent} {a:Act} {w:World}:∀ (n:Nat) {s:St},Sim X s a w → Sim X (yY n s) a w
 | 0,_,h=>h
 | n + 1,_,h=>(Sim.yY n h).freeze n
def qc:List Nat → St → St
 | [],s=>s
 | id :: ids,s=>qc ids (freeze id s)
theorem zB.qc {P:Program} {n:Nat} {ops:Array Oper} {l:List Nat} {Q:Exit → St → Prop}:∀ (ids:List Nat) {s:St},zB P n ops l Q (qc ids s) → zB P n ops l Q s
 | [],_,h=>h
 | id :: ids,_,h=>zB.freeze id (zB.qc ids h)
def j5 (id k:Nat) (s:St):St:=match s.h[id]? with
 | some (.rows sz e xs)=>⟨s.t,s.h.set id (.rows sz e (xs.take k))⟩
 | _=>s
theorem Sim.j5 {X:Ent} {s:St} {a:Act} {w:World} (id k:Nat) (hs:Sim X s a w):Sim X (j5 id k s) a w:=by
 unfold Ev.j5
 split
 ·rename_i sz e xs hb
  obtain ⟨N,ρ,S⟩:=hs
  have H:=S.heap
  have hid:id < s.h.length:=(List.getElem?_eq_some_iff.1 hb).1
  have hblk:ka w N ρ (ρ id) (.rows sz e (xs.take k)):=by
   obtain ⟨h0,h1,h2⟩:=H.own id _ hb
   refine ⟨h0,fun x hx=>h1 x (List.mem_of_mem_take hx),h2.imp (fun ⟨z,z'⟩=>⟨z,by rw [z'];simp⟩) ?_⟩
   rintro ⟨hp,vs,t,fr,hh,hf,hsz,hl,hc⟩
   refine ⟨hp,vs,t,fr,hh,hf,hsz,?_,fun j i hj hi=>?_⟩
   ·have:(xs.take k).length * sz ≤ xs.length * sz:=Nat.mul_le_mul_right sz (by simp;omega)
    omega
   ·have hj':j < xs.length:=by simp at hj;omega
    have e1:(xs.take k)[j]=xs[j]:=by simp
    obtain ⟨x,hx,hr⟩:=hc j i hj' (by rw [← e1];exact hi)
    exact ⟨x,hx,by simpa [e1] using hr⟩
  have hown:∀ i,owns (s.h.set id (.rows sz e (xs.take k))) ρ i → owns s.h ρ i:=fun i ⟨⟨k',hk',h1⟩,hp⟩=>by
   by_cases e1:i=id
   ·subst e1;exact ⟨⟨_,hb,by simp,by simp⟩,hp⟩
   ·rw [List.getElem?_set_ne (Ne.symm e1)] at hk';exact ⟨⟨k',hk',h1⟩,hp⟩
  have hborn:∀ i,born s.h i=true → born (s.h.set id (.rows sz e (xs.take k))) i=true:=fun i hi=>by
   by_cases e1:i=id
   ·subst e1;simp [born,hid]
   ·unfold born at *;rw [List.getElem?_set_ne (Ne.symm e1)];exact hi
  refine ⟨N,ρ,⟨H.lt,fun i j hi hj=>H.inj i j (hown i hi) (hown j hj),fun i hi=>H.apart i (hown i hi),fun i k' hk'=>?_,fun i k' hk'=>?_,H.glob⟩,S.slots,AV.zQ.all hborn _ S.sc,?_,S.defers⟩
  ·by_cases e1:i=id
   ·subst e1
    rw [List.getElem?_set_self hid] at hk';cases hk';exact hblk
   ·rw [List.getElem?_set_ne (Ne.symm e1)] at hk';exact H.own i k' hk'
  ·by_cases e1:i=id
   ·subst e1
    rw [List.getElem?_set_self hid] at hk';cases hk';rfl
   ·rw [List.getElem?_set_ne (Ne.symm e1)] at hk';exact AV.zQ.all hborn _ (H.scope i k' hk')
  ·have K:=S.kept
   exact ⟨K.os,K.tape,K.output,K.size,fun i hi=>⟨hborn i (K.rho i hi).1,(K.rho i hi).2⟩,K.stay,K.from_,K.rest,fun i hi=>K.new i (hown i hi)⟩
 ·exact hs
theorem zB.j5 {P:Program} {n:Nat} {ops:Array Oper} {l:List Nat} {Q:Exit → St → Prop} {s:St} (id k:Nat) (h:zB P n ops l Q (j5 id k s)):zB P n ops l Q s:=
 fun X a w hX hs=>h X a w hX (hs.j5 id k)
theorem Run.j5 {P:Program} {n:Nat} {c:Code} {Q:Exit → St → Prop} {s:St} (id k:Nat) (h:Run P n c Q (Ev.j5 id k s)):Run P n c Q s:=
 Run.from (fun _ _ _ _ hs=>hs.j5 id k) h
def zek (op:Op) (t:List AV) (h:List zf):Option (Nat × Nat):=match op with
 | .call { callee:=.builtin .append,args,argTypes:=_ }=>match args.toList with
  | x :: _=>match opd t x with
   | some (.sl id off len)=>match h[id]? with
    | some (.rows _ _ xs)=>if off + len < xs.length then some (id,off + len) else none
    | _=>none
   | _=>none
  | _=>none
 | _=>none
theorem zan (id k:Nat) (s:St):(j5 id k s).t=s.t:=by unfold j5;split <;> rfl
def jd (E:Env) (K:FuncId → List AV → List zf → Option (AV × List zf)) (ops:Array Oper):List Nat → St → Option St
 | [],s=>some s
 | i :: l,s=>match ops[i]? with
  | none=>jd E K ops l s
  | some o=>match zC ops s.t o with
   | some false=>jd E K ops l ⟨kN s.t o.dst .und,s.h⟩
   | some true =>
    if vN o then
     match q9 s.t o with
     | some (f,args)=>match K f args s.h with
      | some (r,h')=>jd E K ops l ⟨kN s.t o.dst r,h'⟩
      | none=>none
     | none=>none
    else
     match kE E o.op o.type s.t s.h s.h.length with
     | some (v,U)=>jd E K ops l ⟨kN s.t o.dst v,app s.h U⟩
     | none=>if zbU o.op then
       let s1:=qc (o.op.operands.toList.flatMap (wQ s.t)) s
       match kE E o.op o.type s1.t s1.h s1.h.length with
       | some (v,U)=>match zC ops s1.t o with
        | some true=>jd E K ops l ⟨kN s1.t o.dst v,app s1.h U⟩
        | _=>none
       | none=>none
      else match zek o.op s.t s.h with
       | some (id,k)=>let s1:=j5 id k s
        match kE E o.op o.type s1.t s1.h s1.h.length with
        | some (v,U)=>jd E K ops l ⟨kN s1.t o.dst v,app s1.h U⟩
        | none=>none
       | none=>none
   | none=>none
def jw (P:Program) (K:FuncId → List AV → List zf → Option (AV × List zf)):Prop:=∀ f args h r h',K f args h=some (r,h') → Good P f args h r h'
theorem qF {P:Program} {E:Env} (T:zE P E) {K:FuncId → List AV → List zf → Option (AV × List zf)} (hK:jw P K) {n:Nat} {ops:Array Oper} {Q:Exit → St → Prop}:∀ (l:List Nat) (s s':St),jd E K ops l s=some s' → Q .normal s' → zB P n ops l Q s
 | [],s,s',h,hq=>by
  simp only [jd,Option.some.injEq] at h;subst h
  exact zB.nil hq
 | i :: l,s,s',h,hq=>by
  unfold jd at h
  split at h
  ·rename_i hi
   exact zB.none hi (qF T hK l s s' h hq)
  ·rename_i o hi
   split at h
   ·rename_i hw
    exact zB.skip hi hw (qF T hK l _ s' h hq)
   ·rename_i hw
    split at h
    ·split at h
     ·rename_i f us hc
      split at h
      ·rename_i r h1 hk
       obtain ⟨c,fo,fv,args,caps,q1,q2,q3,q4,q5,rfl⟩:=vq hc
       exact zB.call hi hw q1 q2 q3 q5 q4 (hK _ _ _ _ _ hk) (qF T hK l _ s' h hq)
      ·cases h
     ·cases h
    ·split at h
     ·rename_i v U hv
      exact zB.op T hi hw hv (qF T hK l _ s' h hq)
     ·split at h
      ·simp only at h
       split at h
       ·rename_i v U hv
        split at h
        ·rename_i hw1
         exact zB.qc _ (zB.op T hi hw1 hv (qF T hK l _ s' h hq))
        ·cases h
       ·cases h
      ·split at h
       ·rename_i id k htr
        simp only at h
        split at h
        ·rename_i v U hv
         exact zB.j5 id k (zB.op T hi (by rw [zan];exact hw) hv (qF T hK l _ s' h hq))
        ·cases h
       ·cases h
   ·cases h
def ended (m:Nat) (r:AV) (h:List zf):AV × List zf:=if stays m r h then (r,h.take m) else (r,h)
def VU (E:Env) (X:Code → St → Option (Exit × St)) (F:FuncId → Option Func) (L:FuncId → List AV → List zf → Option (AV × List zf)) (f:FuncId) (args:List AV) (h:List zf):Option (AV × List zf):=
 match L f args h with
 | some r=>some r
 | none=>match F f with
  | none=>none
  | some fn=>match fn.body with
   | none=>none
   | some c=>if fn.name == "runtime.NumGoroutine" then none else
    match X c ⟨args ++ List.replicate (fn.ntmps - args.length) .und,h⟩ with
    | some (.normal,s) | some (.ret,s)=>(zeb E fn.results.toList s).map fun r=>ended h.length r s.h
    | _=>none
def kx (m:Nat):Nat → St → St
 | 0,s=>s
 | n + 1,s=>freeze (m + n) (kx m n s)
theorem Sim.kx {X:Ent} {a:Act} {w:World} (m:Nat):∀ (n:Nat) {s:St},Sim X s a w → Sim X (kx m n s) a w
 | 0,_,h=>h
 | n + 1,_,h=>(Sim.kx m n h).freeze (m + n)
def shut (K:FuncId → List AV → List zf → Option (AV × List zf)) (f:FuncId) (args:List AV) (h:List zf):Option AV:=match K f args h with
 | some (r,h2)=>match kx h.length (h2.length - h.length) ⟨[r],h2⟩ with
  | ⟨[r'],h'⟩=>if stays h.length r' h' && zdH (h'.take h.length) h then some r' else none
  | _=>none
 | none=>none
def zf4 (E:Env) (K:FuncId → List AV → List zf → Option (AV × List zf)) (ops:Array Oper) (s:St):Option St:=match zll ops with
 | some k=>match yQ E (shut K) ops k s with
  | some s1=>jd E K ops (List.range' k (ops.size - k)) s1
  | none=>none
 | none=>none
def zbX (E:Env) (K:FuncId → List AV → List zf → Option (AV × List zf)) (ops:Array Oper) (s:St):Option St:=match vQ E K ops ops.size 0 s with
 | some (rs,s1)=>if Kj ops rs then some s1 else none
 | none=>none
def QD (E:Env) (K:FuncId → List AV → List zf → Option (AV × List zf)) (ops:Array Oper) (s:St):Option St:=match zf4 E K ops s with
 | some s1=>some s1
 | none=>zbX E K ops s
def exec (E:Env) (F:FuncId → Option Func) (L:FuncId → List AV → List zf → Option (AV × List zf)):Nat → Code → St → Option (Exit × St)
 | 0,_,_=>none
 | n + 1,c,s=>match c with
  | .skip=>some (.normal,s)
  | .label _=>some (.normal,s)
  | .exit id=>some (.exit id,s)
  | .goto l=>some (.goto l,s)
  | .ret=>some (.ret,s)
  | .seq x y=>match exec E F L n x s with
   | some (.normal,s1)=>exec E F L n y s1
   | r=>r
  | .block id c=>match exec E F L n c s with
   | some (.exit id',s1)=>if id'=id then some (.normal,s1) else some (.exit id',s1)
   | r=>r
  | .cond c x y=>match opd s.t c with
   | some (.c (.bool b))=>exec E F L n (if b then x else y) s
   | _=>none
  | .loop c=>match exec E F L n c s with
   | some (.normal,s1)=>exec E F L n (.loop c) s1
   | r=>r
  | .region _ ops false=>match jd E (VU E (exec E F L n) F L) ops (List.range ops.size) s with
   | some s1=>some (.normal,s1)
   | none=>none
  | .region _ ops true=>if qV ops then
    match drawn E (shut (VU E (exec E F L n) F L)) ops s with
    | some s1=>some (.normal,s1)
    | none=>(QD E (VU E (exec E F L n) F L) ops s).map fun s1=>(.normal,s1)
   else none
  | _=>none
theorem XJ {P:Program} {E:Env} (T:zE P E) {X:Code → St → Option (Exit × St)} {F:FuncId → Option Func} {L:FuncId → List AV → List zf → Option (AV × List zf)} (hF:∀ f fn,F f=some fn → P.funcs[f]?=some fn) (hL:jw P L)
  (hX:∀ c s e s',X c s=some (e,s') → ∀ n,Run P n c (fun e1 s1=>e1=e ∧ s1=s') s):jw P (VU E X F L):=by
 intro f args h r h' hb
 unfold VU at hb
 split at hb
 ·rename_i r0 h0;cases hb;exact hL _ _ _ _ _ h0
 ·split at hb
  ·cases hb
  ·rename_i fn hfn
   split at hb
   ·cases hb
   ·rename_i c hc
    split at hb
    ·cases hb
    ·rename_i hnm
     have fin:∀ e s,(e = .normal ∨ e = .ret) → X c ⟨args ++ List.replicate (fn.ntmps - args.length) .und,h⟩=some (e,s) → (zeb E fn.results.toList s).map (fun r=>ended h.length r s.h)=some (r,h') → Good P f args h r h':=fun e s he hx hb=>by
      obtain ⟨r1,hr1,hend⟩:=Option.map_eq_some_iff.1 hb
      have G:Good P f args h r1 s.h:=Good.of_run T (hF f fn hfn) hc (by simpa using hnm) ((hX _ _ _ _ hx h.length).mono fun e1 s1 ⟨h1,h2⟩=>by
       subst h1 h2;exact ⟨he,hr1,rfl⟩)
      unfold ended at hend
      split at hend
      ·rename_i hst
       cases hend
       exact G.trim (Nat.le_refl _) hst
      ·cases hend;exact G
     split at hb
     ·rename_i s hx;exact fin _ s (.inl rfl) hx hb
     ·rename_i s hx;exact fin _ s (.inr rfl) hx hb
     ·cases hb
theorem Z1 {P:Program} {K:FuncId → List AV → List zf → Option (AV × List zf)} (hK:jw P K):Kg P (shut K):=by
 intro f args h r hs
 unfold shut at hs
 split at hs
 ·rename_i r0 h0 hk
  split at hs
  ·rename_i r1 h' he
   split at hs
   ·rename_i hc
    simp only [Bool.and_eq_true] at hc
    simp only [Option.some.injEq] at hs
    subst hs
    have G1:Good P f args h r1 h':=(hK _ _ _ _ _ hk).turn fun X a w _ hs=>by rw [← he];exact hs.kx _ _
    have G2:=G1.trim (Nat.le_refl _) hc.1
    rw [zbO _ _ hc.2] at G2
    exact G2
   ·cases hs
  ·cases hs
 ·cases hs
theorem ym {P:Program} {E:Env} (T:zE P E) {K:FuncId → List AV → List zf → Option (AV × List zf)} (hK:jw P K) {ops:Array Oper} {s s':St} {id n:Nat} (hsl:qV ops=true) (h:QD E K ops s=some s'):Run P n (.region id ops true) (fun e1 s1=>e1 = .normal ∧ s1=s') s:=by
 unfold QD at h
 split at h
 ·rename_i s1 h1
  cases h
  unfold zf4 at h1
  split at h1
  ·rename_i k hk
   split at h1
   ·rename_i s2 hs2
    exact Run.W9 T (Z1 hK) hsl (zim hk) hs2 (qF T hK _ _ _ h1 ⟨rfl,rfl⟩)
   ·cases h1
  ·cases h1
 ·unfold zbX at h
  split at h
  ·rename_i rs s1 hc
   split at h
   ·rename_i hch
    cases h
    obtain ⟨g1,hs2,g2⟩:=yp T hK _ _ _ _ _ hc
    exact Run.zlt T hsl hch g1 g2 ⟨rfl,rfl⟩
   ·cases h
  ·cases h
theorem zla {P:Program} {E:Env} (T:zE P E) {F:FuncId → Option Func} {L:FuncId → List AV → List zf → Option (AV × List zf)} (hF:∀ f fn,F f=some fn → P.funcs[f]?=some fn) (hL:jw P L) :
  ∀ (fuel:Nat) (c:Code) (s:St) (e:Exit) (s':St),exec E F L fuel c s=some (e,s') → ∀ n,Run P n c (fun e1 s1=>e1=e ∧ s1=s') s:=by
 intro fuel
 induction fuel using Nat.strongRecOn with
 | _ fuel IH =>
 cases fuel with
 | zero=>intro c s e s' h n;simp [exec] at h
 | succ fuel =>
  intro c s e s' h n
  have ih:=IH fuel (by omega)
  have hK:jw P (VU E (exec E F L fuel) F L):=XJ T hF hL ih
  cases c with
  | skip=>simp only [exec,Option.some.injEq,Prod.mk.injEq] at h;exact Run.skip ⟨h.1,h.2⟩
  | label l=>simp only [exec,Option.some.injEq,Prod.mk.injEq] at h;exact Run.label ⟨h.1,h.2⟩
  | exit id=>simp only [exec,Option.some.injEq,Prod.mk.injEq] at h;exact Run.exit ⟨h.1,h.2⟩
  | goto id=>simp only [exec,Option.some.injEq,Prod.mk.injEq] at h;exact Run.goto ⟨h.1,h.2⟩
  | ret=>simp only [exec,Option.some.injEq,Prod.mk.injEq] at h;exact Run.ret ⟨h.1,h.2⟩
  | seq x y =>
   simp only [exec] at h
   refine Run.seq ?_
   cases hx:exec E F L fuel x s with
   | none=>rw [hx] at h;cases h
   | some p =>
    obtain ⟨e1,s1⟩:=p
    rw [hx] at h
    refine (ih _ _ _ _ hx n).mono ?_
    rintro e9 s9 ⟨h8,h9⟩
    rw [h8,h9]
    cases e1 <;> simp only [Option.some.injEq,Prod.mk.injEq] at h <;> first | exact ⟨h.1,h.2⟩ | exact ih _ _ _ _ h n
  | block id c =>
   simp only [exec] at h
   refine Run.block ?_
   cases hx:exec E F L fuel c s with
   | none=>rw [hx] at h;cases h
   | some p =>
    obtain ⟨e1,s1⟩:=p
    rw [hx] at h
    refine (ih _ _ _ _ hx n).mono ?_
    rintro e9 s9 ⟨h8,h9⟩
    rw [h8,h9]
    cases e1 with
    | exit id' =>
     simp only at h
     simp only [vU]
     split at h <;> rename_i hid <;> simp only [Option.some.injEq,Prod.mk.injEq] at h
     ·rw [if_pos hid];exact ⟨h.1,h.2⟩
     ·rw [if_neg hid];exact ⟨h.1,h.2⟩
    | _=>simp only [Option.some.injEq,Prod.mk.injEq] at h;exact ⟨h.1,h.2⟩
  | cond c x y =>
   simp only [exec] at h
   split at h
   ·rename_i b hb;exact Run.cond hb (ih _ _ _ _ h n)
   ·cases h
  | loop c =>
   refine Run.loop (fun j s1=>j ≤ fuel + 1 ∧ exec E F L j (.loop c) s1=some (e,s')) (fuel + 1) ⟨Nat.le_refl _,h⟩ ?_
   rintro j s1 ⟨hj,hx⟩
   cases j with
   | zero=>simp [exec] at hx
   | succ j =>
    simp only [exec] at hx
    cases hy:exec E F L j c s1 with
    | none=>rw [hy] at hx;cases hx
    | some p =>
     obtain ⟨e1,s2⟩:=p
     rw [hy] at hx
     refine (IH j (by omega) _ _ _ _ hy n).mono ?_
     rintro e9 s9 ⟨h8,h9⟩
     rw [h8,h9]
     cases e1 with
     | normal=>exact ⟨j,by omega,by omega,hx⟩
     | _=>simp only [Option.some.injEq,Prod.mk.injEq] at hx;exact ⟨hx.1,hx.2⟩
  | region id ops draw =>
   cases draw with
   | false =>
    simp only [exec] at h
    split at h
    ·rename_i s1 hs
     cases h
     exact Run.region (qF T hK _ _ _ hs ⟨rfl,rfl⟩)
    ·cases h
   | true =>
    simp only [exec] at h
    split at h
    ·rename_i hsl
     split at h
     ·rename_i s1 hs
      cases h
      exact Run.drawn T (Z1 hK) hsl hs ⟨rfl,rfl⟩
     ·obtain ⟨s1,hs1,he⟩:=Option.map_eq_some_iff.1 h
      cases he
      exact ym T hK hsl hs1
    ·cases h
  | rangeFunc _ _ _ _=>simp [exec] at h
  | scope _=>simp [exec] at h
  | refuse _=>simp [exec] at h
end Go.Ev
namespace Go.Ev
open Go.RowKit
variable [qo]
theorem Good.ext {P:Program} {f:FuncId} {fn:Func} {e:Array Value → Sem Value} (hf:P.funcs[f]?=some fn) (hname:(fn.name == "runtime.NumGoroutine")=false) (hb:fn.body.isNone=true) (hn:Extern.findNext fn=none) (he:Extern.find fn=some e)
  {args:List AV} {h:List zf} {r:AV} (hr:r.cl=true) (hrun:∀ (w:World) (N:Nat → Prop) (ρ:Nat → Pl) (vs:List Value),args.length=vs.length → (∀ (i:Nat) (h1:i < args.length) (h2:i < vs.length),zo w N ρ args[i] vs[i]) → ∃ v,(e vs.toArray).run P w = .ok v w ∧ zo w N ρ r v):Good P f args h r h:=by
 intro w N ρ vs H hsc hl hrep
 obtain ⟨v,hv,hrv⟩:=hrun w N ρ vs hl hrep
 exact .inr ⟨v,w,by rw [run_callFunc_extern hf hname hb hn he,hv];rfl,zn.quiet H hrv (AV.YL _ hr _)⟩
theorem zfn {w:World} {N:Nat → Prop} {ρ:Nat → Pl} {a b:AV} {vs:List Value} (hl:[a,b].length=vs.length) (hr:∀ (i:Nat) (h1:i < [a,b].length) (h2:i < vs.length),zo w N ρ [a,b][i] vs[i]):∃ x y,vs=[x,y] ∧ zo w N ρ a x ∧ zo w N ρ b y:=by
 match vs,hl with
 | [x,y],_=>exact ⟨x,y,rfl,hr 0 (by simp) (by simp),hr 1 (by simp) (by simp)⟩
def zjO (a b:ByteArray):AV:=.c (.int .i64 (Extern.BytealgCompare.cmp a b))
theorem Vq (P:Program) (a b:ByteArray) (w:World) (N:Nat → Prop) (ρ:Nat → Pl) (vs:List Value) (hl:[AV.c (.str a),AV.c (.str b)].length=vs.length) (hr:∀ (i:Nat) (h1:i < [AV.c (.str a),AV.c (.str b)].length) (h2:i < vs.length),zo w N ρ [AV.c (.str a),AV.c (.str b)][i] vs[i]) :
  ∃ v,(Extern.BytealgCompare.compare vs.toArray).run P w = .ok v w ∧ zo w N ρ (zjO a b) v:=by
 obtain ⟨x,y,rfl,h1,h2⟩:=zfn hl hr
 cases h1.vH;cases h2.vH
 exact ⟨.int .i64 (Extern.BytealgCompare.cmp a b),rfl,.c (.int _ _)⟩
def KN (a:ByteArray) (c:Int):AV:=match (List.range a.size).find? fun i=>a[i]! == c.toNat.toUInt8 with
 | some i=>.c (.int .i64 i)
 | none=>.c (.int .i64 (-1))
theorem zaf (P:Program) (a:ByteArray) (c:Int) (w:World) (N:Nat → Prop) (ρ:Nat → Pl) (vs:List Value) (hl:[AV.c (.str a),AV.c (.int .u8 c)].length=vs.length) (hr:∀ (i:Nat) (h1:i < [AV.c (.str a),AV.c (.int .u8 c)].length) (h2:i < vs.length),zo w N ρ [AV.c (.str a),AV.c (.int .u8 c)][i] vs[i]) :
  ∃ v,(Extern.BytealgIndexByte.indexByte vs.toArray).run P w = .ok v w ∧ zo w N ρ (KN a c) v:=by
 obtain ⟨x,y,rfl,h1,h2⟩:=zfn hl hr
 cases h1.vH;cases h2.int_eq
 unfold KN
 have e:(Extern.BytealgIndexByte.indexByte [Value.string a,Value.int .u8 c].toArray).run P w=(match (List.range a.size).find? fun i=>a[i]! == c.toNat.toUInt8 with
  | some i=>(pure (goInt i):Sem Value)
  | none=>pure (goInt (-1))).run P w:=rfl
 rw [e]
 cases (List.range a.size).find? fun i=>a[i]! == c.toNat.toUInt8 with
 | some i=>exact ⟨_,rfl,.c (.int _ _)⟩
 | none=>exact ⟨_,rfl,.c (.int _ _)⟩
end Go.Ev
namespace Go.Ev
open Go.RowKit
variable [qo]
def XI (ρ:Operand → Option AV):List (Nat × Operand) → Option (List (Nat × AV))
 | []=>some []
 | (i,x) :: r=>match ρ x,XI ρ r with
  | some v,some l=>some ((i,v) :: l)
  | _,_=>none
def zdz (ρ:Operand → Option AV):List Operand → Option (List AV)
 | []=>some []
 | x :: r=>match ρ x,zdz ρ r with
  | some v,some l=>some (v :: l)
  | _,_=>none
def zml (ρ:Operand → Option AV):Option Operand → Option (Option AV)
 | none=>some none
 | some x=>(ρ x).map some
abbrev OV:=Option (AV × List (Nat × zf))
def zm2 (E:Env) (ty:TypeId) (nw:Nat):OV:=match E.und ty with
 | some (.slice e)=>(E.size e).map fun sz=>(.sl nw 0 0,[(nw,kI E sz e [])])
 | _=>none
def zlE (x:Option AV):OV:=x.map (·,[])
def zmA (c a b:Option AV):OV:=match c,a,b with
 | some (.c (.bool p)),some a,some b=>some (V4 p a b,[])
 | _,_,_=>none
def zlG (E:Env) (e:TypeId) (nw:Nat):OV:=(E.zero e).map fun z=>(.ptr nw 0,[(nw,.box (z.map .c))])
def zm6 (x:Option AV) (nw:Nat):OV:=match x with
 | some v=>(cellsOf v).map fun cs=>(.ptr nw 0,[(nw,.box cs)])
 | none=>none
def zjD (E:Env) (ty:TypeId) (l:Option (List (Nat × AV))):OV:=match E.und ty,E.zero ty,l with
 | some (.struct fs),some z,some l=>match xm E fs.toList with
  | some pl=>(Kd (fun i=>pl[i]?) (z.map .c) l).map fun cs=>(.agg cs,[])
  | none=>none
 | some (.array _ e),some z,some l=>match E.size e with
  | some sz=>(Kd (fun i=>some (i * sz,sz)) (z.map .c) l).map fun cs=>(.agg cs,[])
  | none=>none
 | _,_,_=>none
def K4 (E:Env) (ty:TypeId) (len:Nat) (l:Option (List (Nat × AV))) (nw:Nat):OV:=match l with
 | some l=>jk E ty len l nw
 | none=>none
def zmx (E:Env) (ty:TypeId) (a:Option AV) (h:List zf):OV:=match a with
 | some a=>(JO E ty a h).map (·,[])
 | none=>none
def zl4 (E:Env) (ty:TypeId) (a x:Option AV) (h:List zf):OV:=match a,x with
 | some a,some v=>(Qg E ty a v h).map fun u=>(.und,u)
 | _,_=>none
def zlx (x:Option AV):OV:=match x with
 | some (.ptr id off)=>some (.ptr id off,[])
 | some (.rd cs)=>some (.rd cs,[])
 | some (.er id j i)=>some (.er id j i,[])
 | some (.c (.fn f caps))=>some (.c (.fn f caps),[])
 | some (.fn f caps)=>some (.fn f caps,[])
 | _=>none
def znh (E:Env) (op:BinOp) (ty:TypeId) (x y:Option AV):OV:=match x,y with
 | some a,some b=>(zl7 E op ty a b).map (·,[])
 | _,_=>none
def oUn (op:UnOp) (x:Option AV):OV:=match x with
 | some a=>(aUn op a).map (·,[])
 | none=>none
def zmv (E:Env) (src dst:TypeId) (x:Option AV) (h:List zf) (nw:Nat):OV:=match x with
 | some a=>Xy E src dst a h nw
 | none=>none
def zly (f:FuncId) (n:Nat) (l:Option (List AV)):OV:=if n=0 then l.map fun l=>(match qt l with | some cs=>.c (.fn f cs) | none=>.fn f l,[]) else none
def zmH (E:Env) (ty:TypeId) (l c:Option AV) (nw:Nat):OV:=match l,c with
 | some l,some c=>wo E ty l c nw
 | _,_=>none
def zjR (E:Env) (ty:TypeId) (x:Option AV) (lo hi:Option (Option AV)) (h:List zf) (nw:Nat):OV:=match x,lo,hi with
 | some x,some lo,some hi=>sliceB E ty x lo hi h nw
 | _,_,_=>none
def zlA (E:Env) (s:TypeId) (x:Option AV) (f:Nat):OV:=match x with
 | some a=>(XT E s a f).map (·,[])
 | none=>none
def zkb (E:Env) (s:TypeId) (x:Option AV) (f:Nat):OV:=match x with
 | some a=>(Kp E s a f).map (·,[])
 | none=>none
def ziw (E:Env) (ty:TypeId) (x ix:Option AV) (h:List zf):OV:=match x,ix with
 | some x,some i=>(kU E ty x i h).map (·,[])
 | _,_=>none
def znj (E:Env) (ty:TypeId) (x ix:Option AV):OV:=match x,ix with
 | some x,some i=>(XK E ty x i).map (·,[])
 | _,_=>none
def zhw (x:Option AV) (i:Nat):OV:=match x with
 | some (.tup vs)=>(vs[i]?).map (·,[])
 | _=>none
def zby (E:Env) (b:Builtin) (ts:List TypeId) (l:Option (List AV)) (h:List zf) (nw:Nat):OV:=match l with
 | some l=>match b with
  | .len=>match ts,l with
   | ty :: _,x :: _=>(XG E ty x h).map (·,[])
   | _,_=>none
  | .clear=>match ts,l with
   | ty :: _,x :: _=>Qd E ty x h
   | _,_=>none
  | .delete=>match ts,l with
   | ty :: _,x :: k :: _=>xI E ty x k h
   | _,_=>none
  | .append=>wI E ts l h nw
  | .cap=>match ts,l with
   | t :: _,.c .nl :: _=>match E.und t with
    | some (.slice _)=>some (.c (.int .i64 0),[])
    | _=>none
   | _,_=>none
  | .copy=>match ts,l with
   | t :: u :: _,x :: y :: _=>WZ E t u x y h
   | _,_=>none
  | .max=>(we true l).map (·,[])
  | .min=>(we false l).map (·,[])
  | _=>none
 | none=>none
def zkt (E:Env) (ty:TypeId) (ρ:Operand → Option AV) (nw:Nat) (x:Operand):OV:=match x with
 | .const (.slice none 0 0)=>zm2 E ty nw
 | x=>zlE (ρ x)
def zlP (E:Env) (ρ:Operand → Option AV) (h:List zf) (nw:Nat) (c:Call):OV:=match c.callee with
 | .builtin b=>zby E b c.argTypes.toList (zdz ρ c.args.toList) h nw
 | _=>none
def WK (ρ:Operand → Option AV) (fn:Fn) (first captured:Array Operand):OV:=match fn with
 | .func f=>zly f first.size (zdz ρ captured.toList)
 | _=>none
def zfO (E:Env) (ty:TypeId) (x hi mx:Option AV):OV:=match x,hi,mx with
 | some x,some (.c (.int _ 0)),some (.c (.int _ 0))=>(Ko E ty x).map (·,[])
 | _,_,_=>none
def Wd (E:Env) (ty:TypeId) (ρ:Operand → Option AV) (h:List zf) (nw:Nat) (x:Operand) (lo hi mx:Option Operand):OV:=match mx with
 | none=>zjR E ty (ρ x) (zml ρ lo) (zml ρ hi) h nw
 | some m=>match lo,hi with
  | none,some hh=>zfO E ty (ρ x) (ρ hh) (ρ m)
  | _,_=>none
def zk4 (E:Env) (ty:TypeId) (m k:Option AV) (ok:Bool) (h:List zf):OV:=match m,k with
 | some m,some k=>(xq E ty m k ok h).map (·,[])
 | _,_=>none
def zmW (E:Env) (ty:TypeId) (m k x:Option AV) (h:List zf):OV:=match m,k,x with
 | some m,some k,some x=>(zhA E ty m k x h).map fun u=>(.und,u)
 | _,_,_=>none
def J9 (E:Env) (op:Op) (ty:TypeId) (ρ:Operand → Option AV) (h:List zf) (nw:Nat):OV:=
 match op with
 | .assign x=>zkt E ty ρ nw x
 | .move x=>zlE (ρ x)
 | .pick c a b=>zmA (ρ c) (ρ a) (ρ b)
 | .alloc e=>zlG E e nw
 | .box _ x=>zm6 (ρ x) nw
 | .build ty ps=>zjD E ty (XI ρ ps.toList)
 | .buildSlice ty len ps=>K4 E ty len (XI ρ ps.toList) nw
 | .load ty a=>zmx E ty (ρ a) h
 | .store ty a x=>zl4 E ty (ρ a) (ρ x) h
 | .nilCheck x=>zlx (ρ x)
 | .binOp op ty x y _=>znh E op ty (ρ x) (ρ y)
 | .unOp op _ x=>oUn op (ρ x)
 | .convert src dst x=>zmv E src dst (ρ x) h nw
 | .makeFunc fn first captured=>WK ρ fn first captured
 | .makeSlice ty l c=>zmH E ty (ρ l) (ρ c) nw
 | .slice ty x lo hi mx=>Wd E ty ρ h nw x lo hi mx
 | .fieldAddr s x f=>zlA E s (ρ x) f
 | .indexAddr ty x ix=>ziw E ty (ρ x) (ρ ix) h
 | .index ty x ix=>znj E ty (ρ x) (ρ ix)
 | .field ty x f=>zkb E ty (ρ x) f
 | .extract x i=>zhw (ρ x) i
 | .call c=>zlP E ρ h nw c
 | .makeMap ty r=>Zg E ty (zml ρ r) nw
 | .lookup ty x ix ok=>zk4 E ty (ρ x) (ρ ix) ok h
 | .mapUpdate ty m k x=>zmW E ty (ρ m) (ρ k) (ρ x) h
 | .insert ty m k x=>zmW E ty (ρ m) (ρ k) (ρ x) h
 | _=>none
theorem Va (t:List AV):∀ l,XI (opd t) l=parts t l
 | []=>rfl
 | (i,x) :: l=>by unfold XI parts;rw [Va t l];rfl
theorem QL (t:List AV):∀ l,zdz (opd t) l=jj t l
 | []=>rfl
 | x :: l=>by unfold zdz jj;rw [QL t l];rfl
theorem zgW (t:List AV):∀ x,zml (opd t) x=Jt t x
 | none=>rfl
 | some x=>rfl
theorem zhv (E:Env) (op:Op) (ty:TypeId) (t:List AV) (h:List zf) (nw:Nat):J9 E op ty (opd t) h nw=kE E op ty t h nw:=by
 cases op with
 | assign x =>
  cases x with
  | const v =>
   cases v with
   | slice a n c =>
    cases a with
    | some a=>rfl
    | none =>
     cases n with
     | succ n=>rfl
     | zero=>cases c <;> rfl
   | _=>rfl
  | _=>rfl
 | makeFunc fn first captured =>
  cases fn with
  | func f =>
   simp only [J9,WK,zly,QL,kE]
   try rfl
  | _=>rfl
 | slice ty x lo hi mx =>
  cases mx with
  | some m =>
   cases lo with
   | some _=>rfl
   | none =>
    cases hi with
    | none=>rfl
    | some hh =>
     simp only [J9,Wd,zfO,kE,jM]
     try rfl
  | none =>
   simp only [J9,Wd,zjR,zgW,kE,jM]
   try rfl
 | call c =>
  obtain ⟨callee,args,ats⟩:=c
  cases callee with
  | builtin b =>
   simp only [J9,zlP,zby,QL,kE]
   try rfl
  | _=>rfl
 | makeMap ty r=>simp only [J9,zgW,kE]
 | build ty ps =>
  simp only [J9,zjD,Va,kE]
  all_goals rfl
 | buildSlice ty len ps =>
  simp only [J9,K4,Va,kE]
  all_goals rfl
 | _=>rfl
inductive Tr where
 | em
 | lf (v:AV)
 | nd (l r:Tr)
noncomputable def Tr.get (t:Tr):Nat → AV:=Tr.rec (motive:=fun _=>Nat → AV) (fun _=>.und) (fun v _=>v) (fun _ _ gl gr i=>bif Nat.beq (i % 2) 0 then gl (i / 2) else gr (i / 2)) t
noncomputable def Tr.set (t:Tr):Nat → AV → Tr:=Tr.rec (motive:=fun _=>Nat → AV → Tr) (fun _ _=>.em) (fun _ _ v=>.lf v) (fun l r sl sr i v=>bif Nat.beq (i % 2) 0 then .nd (sl (i / 2) v) r else .nd l (sr (i / 2) v)) t
theorem Tr.WY (l r:Tr) (i:Nat):Tr.get (.nd l r) i=if i % 2=0 then Tr.get l (i / 2) else Tr.get r (i / 2):=by
 show (bif Nat.beq (i % 2) 0 then Tr.get l (i / 2) else Tr.get r (i / 2))=_
 by_cases h:i % 2=0
 ·rw [if_pos h,h];rfl
 ·rw [if_neg h]
  have:Nat.beq (i % 2) 0=false:=by cases hb:Nat.beq (i % 2) 0 with
   | false=>rfl
   | true=>exact absurd (Nat.eq_of_beq_eq_true hb) h
  rw [this];rfl
theorem Tr.zjT (l r:Tr) (i:Nat) (v:AV):Tr.set (.nd l r) i v=if i % 2=0 then .nd (Tr.set l (i / 2) v) r else .nd l (Tr.set r (i / 2) v):=by
 show (bif Nat.beq (i % 2) 0 then Tr.nd (Tr.set l (i / 2) v) r else Tr.nd l (Tr.set r (i / 2) v))=_
 by_cases h:i % 2=0
 ·rw [if_pos h,h];rfl
 ·rw [if_neg h]
  have:Nat.beq (i % 2) 0=false:=by cases hb:Nat.beq (i % 2) 0 with
   | false=>rfl
   | true=>exact absurd (Nat.eq_of_beq_eq_true hb) h
  rw [this];rfl
def Tr.full:Nat → Tr
 | 0=>.lf .und
 | k + 1=>.nd (Tr.full k) (Tr.full k)
def Tr.comp:Nat → Tr → Prop
 | 0,.lf _=>True
 | k + 1,.nd l r=>Tr.comp k l ∧ Tr.comp k r
 | _,_=>False
theorem Tr.Kk:∀ k,Tr.comp k (Tr.full k)
 | 0=>trivial
 | k + 1=>⟨Tr.Kk k,Tr.Kk k⟩
theorem Tr.zbJ:∀ (k i:Nat),Tr.get (Tr.full k) i = .und
 | 0,_=>rfl
 | k + 1,i=>by
  rw [Tr.full,Tr.WY];split <;> exact Tr.zbJ k _
theorem Tr.QO:∀ (k:Nat) (t:Tr) (d:Nat) (v:AV),Tr.comp k t → Tr.comp k (Tr.set t d v)
 | 0,.lf _,_,_,_=>trivial
 | k + 1,.nd l r,d,v,h=>by
  rw [Tr.zjT];split
  ·exact ⟨Tr.QO k l _ v h.1,h.2⟩
  ·exact ⟨h.1,Tr.QO k r _ v h.2⟩
theorem Tr.Wg:∀ (k:Nat) (t:Tr) (d i:Nat) (v:AV),Tr.comp k t → d < 2 ^ k → i < 2 ^ k → Tr.get (Tr.set t d v) i=if i=d then v else Tr.get t i
 | 0,.lf u,d,i,v,_,hd,hi=>by
  have:i=d:=by simp at hd hi;omega
  rw [if_pos this];rfl
 | k + 1,.nd l r,d,i,v,h,hd,hi=>by
  have hd2:d / 2 < 2 ^ k:=by rw [Nat.pow_succ] at hd;omega
  have hi2:i / 2 < 2 ^ k:=by rw [Nat.pow_succ] at hi;omega
  rw [Tr.zjT]
  by_cases h1:d % 2=0
  ·rw [if_pos h1,Tr.WY,Tr.WY]
   by_cases h2:i % 2=0
   ·rw [if_pos h2,if_pos h2,Tr.Wg k l (d / 2) (i / 2) v h.1 hd2 hi2]
    by_cases h3:i=d
    ·rw [if_pos h3,if_pos (by rw [h3])]
    ·rw [if_neg h3,if_neg (by omega)]
   ·rw [if_neg h2,if_neg h2,if_neg (by omega)]
  ·rw [if_neg h1,Tr.WY,Tr.WY]
   by_cases h2:i % 2=0
   ·rw [if_pos h2,if_pos h2,if_neg (by omega)]
   ·rw [if_neg h2,if_neg h2,Tr.Wg k r (d / 2) (i / 2) v h.2 hd2 hi2]
    by_cases h3:i=d
    ·rw [if_pos h3,if_pos (by rw [h3])]
    ·rw [if_neg h3,if_neg (by omega)]
structure Sl where
 n:Nat
 k:Nat
 t:Tr
def Sl.ok (s:Sl):Prop:=s.n ≤ 2 ^ s.k ∧ Tr.comp s.k s.t
noncomputable def Sl.list (s:Sl):List AV:=(List.range s.n).map (Tr.get s.t)
noncomputable def Sl.set (s:Sl) (d:Option Tmp) (v:AV):Sl:=match d with
 | some d=>if d < s.n then ⟨s.n,s.k,Tr.set s.t d v⟩ else s
 | none=>s
noncomputable def Sl.opd (s:Sl):Operand → Option AV
 | .tmp i=>if i < s.n then some (Tr.get s.t i) else none
 | .const v=>zjU v
 | .func f=>some (.c (.fn f []))
 | .global g=>(qo.glob g).map .rd
theorem Sl.yR (s:Sl) (i:Nat):s.list[i]?=if i < s.n then some (Tr.get s.t i) else none:=by
 unfold Sl.list
 rw [List.getElem?_map]
 by_cases h:i < s.n
 ·rw [if_pos h,List.getElem?_range h];rfl
 ·rw [if_neg h,List.getElem?_eq_none (by simp;omega)];rfl
theorem Sl.zew (s:Sl):s.opd=Ev.opd s.list:=funext fun x=>by
 cases x with
 | tmp i=>simp only [Sl.opd,Ev.opd,Sl.yR]
 | _=>rfl
theorem Sl.length (s:Sl):s.list.length=s.n:=by simp [Sl.list]
theorem Sl.WT {s:Sl} (h:s.ok) (d:Option Tmp) (v:AV):(s.set d v).ok:=by
 unfold Sl.set;split
 ·split
  ·exact ⟨h.1,Tr.QO _ _ _ _ h.2⟩
  ·exact h
 ·exact h
theorem Sl.Zo {s:Sl} (h:s.ok) (d:Option Tmp) (v:AV):(s.set d v).list=kN s.list d v:=by
 cases d with
 | none=>rfl
 | some d =>
  apply List.ext_getElem?
  intro i
  simp only [kN]
  by_cases hd:d < s.n
  ·simp only [Sl.set,if_pos hd]
   rw [Sl.yR]
   have hl:s.list.length=s.n:=by simp [Sl.list]
   by_cases hi:i < s.n
   ·simp only [if_pos hi]
    rw [Tr.Wg _ _ _ _ _ h.2 (Nat.lt_of_lt_of_le hd h.1) (Nat.lt_of_lt_of_le hi h.1)]
    by_cases e:i=d
    ·subst e;rw [if_pos rfl,List.getElem?_set_self (by rw [hl];exact hd)]
    ·rw [if_neg e,List.getElem?_set_ne (Ne.symm e),Sl.yR,if_pos hi]
   ·rw [List.getElem?_eq_none (by simp [hl];omega)]
    simp only [if_neg hi]
  ·have hle:s.list.length ≤ d:=by
    rw [show s.list.length=s.n by simp [Sl.list]];exact Nat.le_of_not_lt hd
   simp only [Sl.set,if_neg hd]
   rw [List.set_eq_of_length_le hle]
noncomputable def zc8:Nat → List AV → Tr → Tr
 | _,[],t=>t
 | i,v :: l,t=>zc8 (i + 1) l (Tr.set t i v)
def Kc:Nat → Nat → Nat → Nat
 | 0,_,k=>k
 | f + 1,n,k=>if n ≤ 2 ^ k then k else Kc f n (k + 1)
noncomputable def Sl.of (l:List AV) (n:Nat):Sl:=let k:=Kc 20 n 0;⟨n,k,zc8 0 (l.take n) (Tr.full k)⟩
theorem XP:∀ (f n k:Nat),n ≤ 2 ^ (k + f) → n ≤ 2 ^ Kc f n k
 | 0,n,k,h=>by simpa [Kc] using h
 | f + 1,n,k,h=>by
  unfold Kc
  split
  ·assumption
  ·exact XP f n (k + 1) (by rw [show k + 1 + f=k + (f + 1) by omega];exact h)
theorem Xt (k:Nat):∀ (l:List AV) (i:Nat) (t:Tr),Tr.comp k t → i + l.length ≤ 2 ^ k → Tr.comp k (zc8 i l t) ∧ ∀ j,j < 2 ^ k → Tr.get (zc8 i l t) j=if i ≤ j ∧ j < i + l.length then (l[j - i]?).getD .und else Tr.get t j
 | [],i,t,hc,_=>⟨hc,fun j _=>by simp [zc8];omega⟩
 | v :: l,i,t,hc,hl=>by
  simp only [List.length_cons] at hl
  obtain ⟨g1,g2⟩:=Xt k l (i + 1) (Tr.set t i v) (Tr.QO k t i v hc) (by omega)
  refine ⟨g1,fun j hj=>?_⟩
  unfold zc8
  rw [g2 j hj,Tr.Wg k t i j v hc (by omega) hj]
  by_cases h1:j=i
  ·subst h1
   rw [if_neg (by omega),if_pos rfl,if_pos (by simp)];simp
  ·rw [if_neg h1]
   by_cases h2:i + 1 ≤ j ∧ j < i + 1 + l.length
   ·rw [if_pos h2,if_pos (by simp;omega)]
    rw [show j - i=(j - (i + 1)) + 1 by omega];simp
   ·rw [if_neg h2,if_neg (by simp;omega)]
theorem Sl.zfw (l:List AV) (n:Nat) (hn:n ≤ 2 ^ 20) (hl:l.length ≤ n):(Sl.of l n).ok ∧ (Sl.of l n).list=l ++ List.replicate (n - l.length) .und:=by
 have hk:n ≤ 2 ^ Kc 20 n 0:=XP 20 n 0 (by simpa using hn)
 obtain ⟨g1,g2⟩:=Xt (Kc 20 n 0) l 0 (Tr.full _) (Tr.Kk _) (by omega)
 refine ⟨⟨hk,by simp only [Sl.of,List.take_of_length_le hl];exact g1⟩,?_⟩
 apply List.ext_getElem?
 intro i
 rw [Sl.yR]
 simp only [Sl.of,List.take_of_length_le hl]
 by_cases hi:i < n
 ·rw [if_pos hi,g2 i (by omega)]
  by_cases h2:i < l.length
  ·rw [if_pos (by omega),List.getElem?_append_left h2,Nat.sub_zero,List.getElem?_eq_getElem h2];rfl
  ·rw [if_neg (by omega),Tr.zbJ,List.getElem?_append_right (by omega),List.getElem?_replicate,if_pos (by omega)]
 ·rw [if_neg hi,List.getElem?_eq_none (by simp;omega)]
end Go.Ev
namespace Go.Ev
open Go.RowKit
variable [qo]
def zeT (ops:Array Oper) (g:Nat → Option AV) (o:Oper):Option Bool:=match o.guard with
 | none=>some true
 | some (j,want)=>match ((ops[j]?).bind (·.dst)).bind g with
  | some (.c (.bool b))=>some (b == want)
  | some .und=>some false
  | _=>none
theorem zcz (ops:Array Oper) (t:List AV) (o:Oper):zeT ops (t[·]?) o=zC ops t o:=rfl
noncomputable def Sl.at (s:Sl) (i:Nat):Option AV:=if i < s.n then some (Tr.get s.t i) else none
theorem Sl.zmE (s:Sl):s.at=(s.list[·]?):=funext fun i=>by rw [Sl.yR];rfl
def Y2 (ρ:Operand → Option AV) (o:Oper):Option (FuncId × List AV):=match o.op with
 | .call c=>match c.callee with
  | .value fo=>match ρ fo,zdz ρ c.args.toList with
   | some fv,some args=>match zfL fv with
    | some (f,caps)=>some (f,args ++ caps)
    | none=>none
   | _,_=>none
  | _=>none
 | _=>none
theorem zcp (t:List AV) (o:Oper):Y2 (opd t) o=q9 t o:=by
 unfold Y2 q9
 simp only [QL]
 try rfl
def zmX (h:List zf) (U:List (Nat × zf)):List zf:=match U with
 | []=>h
 | p :: U=>app h (p :: U)
theorem zko (h:List zf) (U:List (Nat × zf)):zmX h U=app h U:=by cases U <;> rfl
abbrev OZ:=Option (Sl × List zf)
noncomputable def zjw (E:Env) (ops:Array Oper) (o:Oper) (s:Sl) (h:List zf):OZ:=if zbU o.op then
  let s1:=qc (o.op.operands.toList.flatMap (wQ s.list)) ⟨s.list,h⟩
  match kE E o.op o.type s1.t s1.h s1.h.length with
  | some (v,U)=>match zC ops s1.t o with
   | some true=>if s.n ≤ 1048576 ∧ s1.t.length=s.n then some ((Sl.of s1.t s.n).set o.dst v,app s1.h U) else none
   | _=>none
  | none=>none
 else match zek o.op s.list h with
  | some (id,k)=>let s1:=j5 id k ⟨s.list,h⟩
   match kE E o.op o.type s1.t s1.h s1.h.length with
   | some (v,U)=>some (s.set o.dst v,app s1.h U)
   | none=>none
  | none=>none
noncomputable def zjB (E:Env) (ops:Array Oper) (o:Oper) (s:Sl) (h:List zf):OZ:=match J9 E o.op o.type s.opd h h.length with
 | some (v,U)=>some (s.set o.dst v,zmX h U)
 | none=>zjw E ops o s h
noncomputable def zbI (K:FuncId → List AV → List zf → Option (AV × List zf)) (o:Oper) (s:Sl) (h:List zf):OZ:=match Y2 s.opd o with
 | some (f,args)=>match K f args h with
  | some (r,h')=>some (s.set o.dst r,h')
  | none=>none
 | none=>none
noncomputable def zkB (E:Env) (K:FuncId → List AV → List zf → Option (AV × List zf)) (ops:Array Oper) (o:Oper) (s:Sl) (h:List zf):OZ:=match zeT ops s.at o with
 | some true=>if vN o then zbI K o s h else zjB E ops o s h
 | some false=>some (s.set o.dst .und,h)
 | none=>none
noncomputable def Zc (E:Env) (K:FuncId → List AV → List zf → Option (AV × List zf)) (ops:Array Oper):List Oper → Sl → List zf → OZ
 | [],s,h=>some (s,h)
 | o :: os,s,h=>match zkB E K ops o s h with
  | some (s1,h1)=>Zc E K ops os s1 h1
  | none=>none
theorem Sl.of_same {l:List AV} {n:Nat} (h:n ≤ 1048576 ∧ l.length=n):(Sl.of l n).ok ∧ (Sl.of l n).list=l:=by
 obtain ⟨h1,h2⟩:=Sl.zfw l n (by have:=h.1;simpa using this) (by omega)
 refine ⟨h1,?_⟩
 rw [h2,h.2];simp
theorem YZ {P:Program} {E:Env} (T:zE P E) {K:FuncId → List AV → List zf → Option (AV × List zf)} (hK:jw P K) {n:Nat} {ops:Array Oper} {i:Nat} {o:Oper} (hi:ops[i]?=some o) {s s':Sl} {h h':List zf} (he:zkB E K ops o s h=some (s',h')) (hs:s.ok) :
  s'.ok ∧ ∀ (l:List Nat) (Q:Exit → St → Prop),zB P n ops l Q ⟨s'.list,h'⟩ → zB P n ops (i :: l) Q ⟨s.list,h⟩:=by
 unfold zkB at he
 rw [Sl.zmE,zcz] at he
 split at he
 ·rename_i hw
  split at he
  ·unfold zbI at he
   rw [Sl.zew,zcp] at he
   split at he
   ·rename_i f us hc
    split at he
    ·rename_i r h1 hk
     cases he
     obtain ⟨c,fo,fv,args,caps,q1,q2,q3,q4,q5,rfl⟩:=vq hc
     refine ⟨Sl.WT hs _ _,fun l Q hr=>?_⟩
     rw [Sl.Zo hs] at hr
     exact zB.call hi hw q1 q2 q3 q5 q4 (hK _ _ _ _ _ hk) hr
    ·cases he
   ·cases he
  ·unfold zjB at he
   rw [Sl.zew,zhv] at he
   split at he
   ·rename_i v U hv
    cases he
    refine ⟨Sl.WT hs _ _,fun l Q hr=>?_⟩
    rw [Sl.Zo hs,zko] at hr
    exact zB.op T hi hw hv hr
   ·unfold zjw at he
    split at he
    ·simp only at he
     split at he
     ·rename_i v U hv
      split at he
      ·rename_i hw1
       split at he
       ·rename_i hn
        cases he
        obtain ⟨k1,k2⟩:=Sl.of_same hn
        refine ⟨Sl.WT k1 _ _,fun l Q hr=>?_⟩
        rw [Sl.Zo k1,k2] at hr
        exact zB.qc _ (zB.op T hi hw1 hv hr)
       ·cases he
      ·cases he
     ·cases he
    ·split at he
     ·rename_i id k htr
      simp only at he
      split at he
      ·rename_i v U hv
       cases he
       refine ⟨Sl.WT hs _ _,fun l Q hr=>?_⟩
       rw [Sl.Zo hs] at hr
       refine zB.j5 id k (zB.op T hi (by rw [zan];exact hw) hv ?_)
       rw [zan];exact hr
      ·cases he
     ·cases he
 ·rename_i hw
  cases he
  refine ⟨Sl.WT hs _ _,fun l Q hr=>?_⟩
  rw [Sl.Zo hs] at hr
  exact zB.skip hi hw hr
 ·cases he
theorem jW {P:Program} {E:Env} (T:zE P E) {K:FuncId → List AV → List zf → Option (AV × List zf)} (hK:jw P K) {n:Nat} {ops:Array Oper}:∀ (os pre:List Oper) (s s':Sl) (h h':List zf),ops.toList=pre ++ os → Zc E K ops os s h=some (s',h') → s.ok → s'.ok ∧ ∀ Q:Exit → St → Prop,Q .normal ⟨s'.list,h'⟩ → zB P n ops (List.range' pre.length os.length) Q ⟨s.list,h⟩
 | [],pre,s,s',h,h',hp,he,hs=>by
  simp only [Zc,Option.some.injEq,Prod.mk.injEq] at he
  obtain ⟨rfl,rfl⟩:=he
  exact ⟨hs,fun Q hq=>zB.nil hq⟩
 | o :: os,pre,s,s',h,h',hp,he,hs=>by
  unfold Zc at he
  split at he
  ·rename_i s1 h1 hst
   have hi:ops[pre.length]?=some o:=by rw [← Array.getElem?_toList,hp];simp
   obtain ⟨g1,g2⟩:=YZ T hK (n:=n) hi hst hs
   obtain ⟨k1,k2⟩:=jW T hK os (pre ++ [o]) s1 s' h1 h' (by rw [hp];simp) he g1
   refine ⟨k1,fun Q hq=>?_⟩
   have:=k2 Q hq
   simp only [List.length_append,List.length_singleton] at this
   rw [List.length_cons,List.range'_succ]
   exact g2 _ Q this
  ·cases he
noncomputable def zaa (E:Env) (X:Code → Sl → List zf → Option (Exit × Sl × List zf)) (F:FuncId → Option Func) (L:FuncId → List AV → List zf → Option (AV × List zf)) (f:FuncId) (args:List AV) (h:List zf):Option (AV × List zf):=
 match L f args h with
 | some r=>some r
 | none=>match F f with
  | none=>none
  | some fn=>match fn.body with
   | none=>none
   | some c=>if fn.name == "runtime.NumGoroutine" then none else
    if args.length ≤ fn.ntmps ∧ fn.ntmps ≤ 1048576 then
     match X c (Sl.of args fn.ntmps) h with
     | some (.normal,s,h') | some (.ret,s,h')=>(zeb E fn.results.toList ⟨s.list,h'⟩).map fun r=>ended h.length r h'
     | _=>none
    else none
noncomputable def ke (E:Env) (F:FuncId → Option Func) (L:FuncId → List AV → List zf → Option (AV × List zf)):Nat → Code → Sl → List zf → Option (Exit × Sl × List zf)
 | 0,_,_,_=>none
 | n + 1,c,s,h=>match c with
  | .skip=>some (.normal,s,h)
  | .label _=>some (.normal,s,h)
  | .exit id=>some (.exit id,s,h)
  | .goto l=>some (.goto l,s,h)
  | .ret=>some (.ret,s,h)
  | .seq x y=>match ke E F L n x s h with
   | some (.normal,s1,h1)=>ke E F L n y s1 h1
   | r=>r
  | .block id c=>match ke E F L n c s h with
   | some (.exit id',s1,h1)=>if id'=id then some (.normal,s1,h1) else some (.exit id',s1,h1)
   | r=>r
  | .cond c x y=>match s.opd c with
   | some (.c (.bool b))=>ke E F L n (if b then x else y) s h
   | _=>none
  | .loop c=>match ke E F L n c s h with
   | some (.normal,s1,h1)=>ke E F L n (.loop c) s1 h1
   | r=>r
  | .region _ ops false=>match Zc E (zaa E (ke E F L n) F L) ops ops.toList s h with
   | some (s1,h1)=>some (.normal,s1,h1)
   | none=>none
  | .region _ ops true=>if qV ops then
    match drawn E (shut (zaa E (ke E F L n) F L)) ops ⟨s.list,h⟩ with
    | some s1=>if s.n ≤ 1048576 ∧ s1.t.length=s.n then some (.normal,Sl.of s1.t s.n,s1.h) else none
    | none=>match QD E (zaa E (ke E F L n) F L) ops ⟨s.list,h⟩ with
     | some s1=>if s.n ≤ 1048576 ∧ s1.t.length=s.n then some (.normal,Sl.of s1.t s.n,s1.h) else none
     | none=>none
   else none
  | _=>none
theorem Vp {P:Program} {E:Env} (T:zE P E) {X:Code → Sl → List zf → Option (Exit × Sl × List zf)} {F:FuncId → Option Func} {L:FuncId → List AV → List zf → Option (AV × List zf)} (hF:∀ f fn,F f=some fn → P.funcs[f]?=some fn) (hL:jw P L)
  (hX:∀ c s h e s' h',X c s h=some (e,s',h') → s.ok → s'.ok ∧ ∀ n,Run P n c (fun e1 s1=>e1=e ∧ s1=⟨s'.list,h'⟩) ⟨s.list,h⟩):jw P (zaa E X F L):=by
 intro f args h r h' hb
 unfold zaa at hb
 split at hb
 ·rename_i r0 h0;cases hb;exact hL _ _ _ _ _ h0
 ·split at hb
  ·cases hb
  ·rename_i fn hfn
   split at hb
   ·cases hb
   ·rename_i c hc
    split at hb
    ·cases hb
    ·rename_i hnm
     split at hb
     ·rename_i hn
      obtain ⟨k1,k2⟩:=Sl.zfw args fn.ntmps (by have:=hn.2;simpa using this) hn.1
      have fin:∀ e s h1,(e = .normal ∨ e = .ret) → X c (Sl.of args fn.ntmps) h=some (e,s,h1) → (zeb E fn.results.toList ⟨s.list,h1⟩).map (fun r=>ended h.length r h1)=some (r,h') → Good P f args h r h':=fun e s h2 he hx hb=>by
       obtain ⟨r1,hr1,hend⟩:=Option.map_eq_some_iff.1 hb
       have hrun:=(hX _ _ _ _ _ _ hx k1).2 h.length
       rw [k2] at hrun
       have G:Good P f args h r1 h2:=Good.of_run T (hF f fn hfn) hc (by simpa using hnm) (hrun.mono fun e1 s1 ⟨q1,q2⟩=>by
        rw [q1,q2];exact ⟨he,hr1,rfl⟩)
       unfold ended at hend
       split at hend
       ·rename_i hst
        cases hend
        exact G.trim (Nat.le_refl _) hst
       ·cases hend;exact G
      split at hb
      ·rename_i s h1 hx;exact fin _ s h1 (.inl rfl) hx hb
      ·rename_i s h1 hx;exact fin _ s h1 (.inr rfl) hx hb
      ·cases hb
     ·cases hb
theorem X0 {id id':Nat} {Q:Exit → St → Prop} {s:St} (h:id'=id) (hq:Q .normal s):vU id Q (.exit id') s:=by
 simp only [vU,if_pos h];exact hq
theorem Jq {id id':Nat} {Q:Exit → St → Prop} {s:St} (h:¬ id'=id) (hq:Q (.exit id') s):vU id Q (.exit id') s:=by
 simp only [vU,if_neg h];exact hq
theorem YY {P:Program} {E:Env} (T:zE P E) {F:FuncId → Option Func} {L:FuncId → List AV → List zf → Option (AV × List zf)} (hF:∀ f fn,F f=some fn → P.funcs[f]?=some fn) (hL:jw P L) :
  ∀ (fuel:Nat) (c:Code) (s:Sl) (h:List zf) (e:Exit) (s':Sl) (h':List zf),ke E F L fuel c s h=some (e,s',h') → s.ok → s'.ok ∧ ∀ n,Run P n c (fun e1 s1=>e1=e ∧ s1=⟨s'.list,h'⟩) ⟨s.list,h⟩:=by
 intro fuel
 induction fuel using Nat.strongRecOn with
 | _ fuel IH =>
 cases fuel with
 | zero=>intro c s h e s' h' hx;simp [ke] at hx
 | succ fuel =>
  intro c s h e s' h' hx hs
  have ih:=IH fuel (by omega)
  have hK:jw P (zaa E (ke E F L fuel) F L):=Vp T hF hL ih
  cases c with
  | skip=>simp only [ke,Option.some.injEq,Prod.mk.injEq] at hx;obtain ⟨rfl,rfl,rfl⟩:=hx;exact ⟨hs,fun n=>Run.skip ⟨rfl,rfl⟩⟩
  | label l=>simp only [ke,Option.some.injEq,Prod.mk.injEq] at hx;obtain ⟨rfl,rfl,rfl⟩:=hx;exact ⟨hs,fun n=>Run.label ⟨rfl,rfl⟩⟩
  | exit id=>simp only [ke,Option.some.injEq,Prod.mk.injEq] at hx;obtain ⟨rfl,rfl,rfl⟩:=hx;exact ⟨hs,fun n=>Run.exit ⟨rfl,rfl⟩⟩
  | goto id=>simp only [ke,Option.some.injEq,Prod.mk.injEq] at hx;obtain ⟨rfl,rfl,rfl⟩:=hx;exact ⟨hs,fun n=>Run.goto ⟨rfl,rfl⟩⟩
  | ret=>simp only [ke,Option.some.injEq,Prod.mk.injEq] at hx;obtain ⟨rfl,rfl,rfl⟩:=hx;exact ⟨hs,fun n=>Run.ret ⟨rfl,rfl⟩⟩
  | seq x y =>
   simp only [ke] at hx
   cases hy:ke E F L fuel x s h with
   | none=>rw [hy] at hx;cases hx
   | some p =>
    obtain ⟨e1,s1,h1⟩:=p
    rw [hy] at hx
    obtain ⟨k1,k2⟩:=ih _ _ _ _ _ _ hy hs
    cases e1 with
    | normal =>
     simp only at hx
     obtain ⟨g1,g2⟩:=ih _ _ _ _ _ _ hx k1
     exact ⟨g1,fun n=>Run.seq ((k2 n).mono fun e9 s9 ⟨q1,q2⟩=>by rw [q1,q2];exact g2 n)⟩
    | _ =>
     simp only [Option.some.injEq,Prod.mk.injEq] at hx
     obtain ⟨rfl,rfl,rfl⟩:=hx
     exact ⟨k1,fun n=>Run.seq ((k2 n).mono fun e9 s9 ⟨q1,q2⟩=>by rw [q1,q2];exact ⟨rfl,rfl⟩)⟩
  | block id c =>
   simp only [ke] at hx
   cases hy:ke E F L fuel c s h with
   | none=>rw [hy] at hx;cases hx
   | some p =>
    obtain ⟨e1,s1,h1⟩:=p
    rw [hy] at hx
    obtain ⟨k1,k2⟩:=ih _ _ _ _ _ _ hy hs
    cases e1 with
    | exit id' =>
     simp only at hx
     split at hx <;> rename_i hid <;> simp only [Option.some.injEq,Prod.mk.injEq] at hx <;> obtain ⟨rfl,rfl,rfl⟩:=hx
     ·exact ⟨k1,fun n=>Run.block ((k2 n).mono fun e9 s9 ⟨q1,q2⟩=>by rw [q1,q2];exact X0 hid ⟨rfl,rfl⟩)⟩
     ·exact ⟨k1,fun n=>Run.block ((k2 n).mono fun e9 s9 ⟨q1,q2⟩=>by rw [q1,q2];exact Jq hid ⟨rfl,rfl⟩)⟩
    | _ =>
     simp only [Option.some.injEq,Prod.mk.injEq] at hx
     obtain ⟨rfl,rfl,rfl⟩:=hx
     exact ⟨k1,fun n=>Run.block ((k2 n).mono fun e9 s9 ⟨q1,q2⟩=>by rw [q1,q2];exact ⟨rfl,rfl⟩)⟩
  | cond c x y =>
   simp only [ke,Sl.zew] at hx
   split at hx
   ·rename_i b hb
    obtain ⟨k1,k2⟩:=ih _ _ _ _ _ _ hx hs
    exact ⟨k1,fun n=>Run.cond hb (k2 n)⟩
   ·cases hx
  | loop c =>
   refine ⟨?_,fun n=>?_⟩
   ·have key:∀ (j:Nat) (s1:Sl) (h1:List zf),j ≤ fuel + 1 → s1.ok → ke E F L j (.loop c) s1 h1=some (e,s',h') → s'.ok:=by
     intro j
     induction j using Nat.strongRecOn with
     | _ j IHj =>
     intro s1 h1 hj hok hx1
     cases j with
     | zero=>simp [ke] at hx1
     | succ j =>
      simp only [ke] at hx1
      cases hy:ke E F L j c s1 h1 with
      | none=>rw [hy] at hx1;cases hx1
      | some p =>
       obtain ⟨e1,s2,h2⟩:=p
       rw [hy] at hx1
       obtain ⟨k1,_⟩:=IH j (by omega) _ _ _ _ _ _ hy hok
       cases e1 with
       | normal=>exact IHj j (by omega) s2 h2 (by omega) k1 hx1
       | _=>simp only [Option.some.injEq,Prod.mk.injEq] at hx1;obtain ⟨_,rfl,_⟩:=hx1;exact k1
    exact key (fuel + 1) s h (Nat.le_refl _) hs hx
   ·refine Run.loop (fun j s1=>∃ s2 h2,s1=⟨s2.list,h2⟩ ∧ s2.ok ∧ j ≤ fuel + 1 ∧ ke E F L j (.loop c) s2 h2=some (e,s',h')) (fuel + 1) ⟨s,h,rfl,hs,Nat.le_refl _,hx⟩ ?_
    rintro j s1 ⟨s2,h2,rfl,hok,hj,hx1⟩
    cases j with
    | zero=>simp [ke] at hx1
    | succ j =>
     simp only [ke] at hx1
     cases hy:ke E F L j c s2 h2 with
     | none=>rw [hy] at hx1;cases hx1
     | some p =>
      obtain ⟨e1,s3,h3⟩:=p
      rw [hy] at hx1
      obtain ⟨k1,k2⟩:=IH j (by omega) _ _ _ _ _ _ hy hok
      refine (k2 n).mono fun e9 s9 ⟨q1,q2⟩=>?_
      rw [q1,q2]
      cases e1 with
      | normal=>exact ⟨j,by omega,s3,h3,rfl,k1,by omega,hx1⟩
      | _ =>
       simp only [Option.some.injEq,Prod.mk.injEq] at hx1
       obtain ⟨rfl,rfl,rfl⟩:=hx1
       exact ⟨rfl,rfl⟩
  | region id ops draw =>
   cases draw with
   | false =>
    simp only [ke] at hx
    split at hx
    ·rename_i s1 h1 hy
     cases hx
     refine ⟨(jW (n:=0) T hK _ [] _ _ _ _ rfl hy hs).1,fun n=>Run.region ?_⟩
     rw [List.range_eq_range']
     have:=(jW (n:=n) T hK _ [] _ _ _ _ rfl hy hs).2
     simp only [List.length_nil,Array.length_toList] at this
     exact this _ ⟨rfl,rfl⟩
    ·cases hx
   | true =>
    simp only [ke] at hx
    split at hx
    ·rename_i hsl
     split at hx
     ·rename_i s1 hd
      split at hx
      ·rename_i hn
       obtain ⟨k1,k2⟩:=Sl.of_same hn
       cases hx
       refine ⟨k1,fun n=>Run.drawn T (Z1 hK) hsl hd ⟨rfl,?_⟩⟩
       rw [k2]
      ·cases hx
     ·split at hx
      ·rename_i s1 hd
       split at hx
       ·rename_i hn
        obtain ⟨k1,k2⟩:=Sl.of_same hn
        cases hx
        refine ⟨k1,fun n=>?_⟩
        rw [k2]
        exact ym T hK hsl hd
       ·cases hx
      ·cases hx
    ·cases hx
  | rangeFunc _ _ _ _=>simp [ke] at hx
  | scope _=>simp [ke] at hx
  | refuse _=>simp [ke] at hx
theorem Good.zeH {P:Program} (vec:TypeId → Bool) (hm:P.follows .mixedOrders=true) {L:FuncId → List AV → List zf → Option (AV × List zf)} (hL:jw P L) {fuel:Nat} {f:FuncId} {args:List AV} {h:List zf} {r:AV} {h':List zf}
  (hx:zaa (zmn P vec) (ke (zmn P vec) (fun f=>P.funcs[f]?) L fuel) (fun f=>P.funcs[f]?) L f args h=some (r,h')):Good P f args h r h':=
 Vp (zaN hm) (fun _ _ h=>h) hL (YY (zaN hm) (fun _ _ h=>h) hL fuel) _ _ _ _ _ hx
end Go.Ev
namespace Go.Ev
open Go.RowKit
variable [qo]
def Wp {α:Type} (x:Option α) (k:α → Prop):Prop:=∃ a,x=some a ∧ k a
theorem Wp.of {α:Type} {x:Option α} {a:α} {k:α → Prop} (hx:x=some a) (hk:k a):Wp x k:=⟨a,hx,hk⟩
def zjJ (P:Program) (f:FuncId) (args:List AV) (h:List zf) (k:AV → List zf → Prop):Prop:=∃ r h',Good P f args h r h' ∧ k r h'
theorem zjJ.of {P:Program} {f:FuncId} {args:List AV} {h:List zf} {k:AV → List zf → Prop} {r:AV} {h':List zf} (G:Good P f args h r h') (hk:k r h'):zjJ P f args h k:=⟨r,h',G,hk⟩
def zmU (E:Env) (ty:TypeId):Bool:=match E.und ty with
 | some (.slice e)=>E.vec e
 | _=>false
def zmP (h:List zf) (id:Nat):Bool:=match h[id]? with
 | some (.vec _ _ _)=>true
 | _=>false
def zkf (E:Env) (op:Op) (t:List AV) (h:List zf):List Nat:=match op with
 | .buildSlice ty _ ps=>if zmU E ty then [] else (ps.toList.map (·.2)).flatMap (wQ t)
 | .store _ a x=>match opd t a with
  | some (.er id _ _)=>if zmP h id then [] else wQ t x
  | _=>[]
 | _=>[]
inductive Fr where
 | seq (y:Code)
 | blk (id:Nat)
 | lp (J:St → Prop)
 | scp
structure Ctx where
 P:Program
 E:Env
 n:Nat
 Q:Exit → St → Prop
inductive Md where
 | code (c:Code)
 | exit (e:Exit)
 | br (v:Option AV) (x y:Code)
 | ops (a:Array Oper) (l:List Oper)
 | opw (a:Array Oper) (o:Oper) (l:List Oper) (w:Option Bool)
 | opg (a:Array Oper) (o:Oper) (l:List Oper) (b:Bool)
 | opc (a:Array Oper) (o:Oper) (l:List Oper) (c:Option (FuncId × List AV))
 | opn (a:Array Oper) (o:Oper) (l:List Oper) (b:Bool)
 | opf (a:Array Oper) (o:Oper) (l:List Oper) (ids:List Nat)
 | opx (a:Array Oper) (o:Oper) (l:List Oper) (w:Option Bool)
 | opv (a:Array Oper) (o:Oper) (l:List Oper) (v:Option (AV × List (Nat × zf)))
def zgC (Q:Exit → St → Prop):Exit → St → Prop
 | .goto _,_=>False
 | e,s=>Q e s
theorem Run.scope {P:Program} {n:Nat} {c:Code} {Q:Exit → St → Prop} {s:St} (h:Run P n c (zgC Q) s):Run P n (.scope c) Q s:=fun X a w hX hs=>wp_scope_straight (wp_mono (h X a w hX hs) fun e a' w' ⟨s',h1,h2⟩=>by
 cases e with
 | goto l=>exact h2.elim
 | _=>exact ⟨s',h1,h2⟩)
def unw (G:Ctx):List Fr → Exit → St → Prop
 | [],e,s=>G.Q e s
 | .seq y :: K,e,s=>thenS (fun s=>Run G.P G.n y (unw G K) s) (unw G K) e s
 | .blk id :: K,e,s=>vU id (unw G K) e s
 | .lp J :: K,e,s=>thenS J (unw G K) e s
 | .scp :: K,e,s=>zgC (unw G K) e s
def xb (G:Ctx) (a:Array Oper) (l:List Oper) (K:List Fr) (s:St):Prop:=∀ pre,a.toList=pre ++ l → zB G.P G.n a (List.range' pre.length l.length) (unw G K) s
def Sem (G:Ctx):Md → List Fr → St → Prop
 | .code c,K,s=>Run G.P G.n c (unw G K) s
 | .exit e,K,s=>unw G K e s
 | .br v x y,K,s=>∃ b,v=some (.c (.bool b)) ∧ Run G.P G.n (if b then x else y) (unw G K) s
 | .ops a l,K,s=>xb G a l K s
 | .opw a o l w,K,s=>zC a s.t o=w → xb G a (o :: l) K s
 | .opg a o l b,K,s=>zC a s.t o=some true → vN o=b → xb G a (o :: l) K s
 | .opc a o l c,K,s=>zC a s.t o=some true → q9 s.t o=c → xb G a (o :: l) K s
 | .opn a o l b,K,s=>zC a s.t o=some true → zk7 G.E s.t o.op=b → xb G a (o :: l) K s
 | .opf a o l ids,K,s=>zC a s.t o=some true → xb G a (o :: l) K s
 | .opx a o l w,K,s=>zC a s.t o=w → xb G a (o :: l) K s
 | .opv a o l v,K,s=>zC a s.t o=some true → kE G.E o.op o.type s.t s.h s.h.length=v → xb G a (o :: l) K s
def Lp (G:Ctx) (c:Code) (K:List Fr) (s:St):Prop:=Run G.P G.n (.loop c) (unw G K) s
def Dr (G:Ctx) (a:Array Oper) (K:List Fr) (s:St):Prop:=∀ id,Run G.P G.n (.region id a true) (unw G K) s
def Cl (G:Ctx) (f:FuncId) (args:List AV) (o:Oper) (a:Array Oper) (l:List Oper) (K:List Fr) (s:St):Prop:=
 zC a s.t o=some true → q9 s.t o=some (f,args) → xb G a (o :: l) K s
def vm (G:Ctx):Nat → Md → List Fr → St → Prop
 | 0,m,K,s=>Sem G m K s
 | k + 1,.code c,K,s=>match c with
  | .skip=>vm G k (.exit .normal) K s
  | .label _=>vm G k (.exit .normal) K s
  | .exit id=>vm G k (.exit (.exit id)) K s
  | .goto l=>vm G k (.exit (.goto l)) K s
  | .ret=>vm G k (.exit .ret) K s
  | .seq x y=>vm G k (.code x) (.seq y :: K) s
  | .block id c=>vm G k (.code c) (.blk id :: K) s
  | .cond c x y=>vm G k (.br (opd s.t c) x y) K s
  | .loop c=>Lp G c K s
  | .region _ a false=>vm G k (.ops a a.toList) K s
  | .region _ a true=>Dr G a K s
  | .scope c=>vm G k (.code c) (.scp :: K) s
  | c=>Sem G (.code c) K s
 | k + 1,.exit e,K,s=>match K with
  | []=>G.Q e s
  | .seq y :: K=>match e with
   | .normal=>vm G k (.code y) K s
   | e=>vm G k (.exit e) K s
  | .blk id :: K=>match e with
   | .exit id'=>if id'=id then vm G k (.exit .normal) K s else vm G k (.exit (.exit id')) K s
   | e=>vm G k (.exit e) K s
  | .lp J :: K=>match e with
   | .normal=>J s
   | e=>vm G k (.exit e) K s
  | .scp :: K=>match e with
   | .goto _=>False
   | e=>vm G k (.exit e) K s
 | k + 1,.br v x y,K,s=>match v with
  | some (.c (.bool b))=>(b=true → vm G k (.code x) K s) ∧ (b=false → vm G k (.code y) K s)
  | _=>False
 | k + 1,.ops a l,K,s=>match l with
  | []=>vm G k (.exit .normal) K s
  | o :: l=>vm G k (.opw a o l (zC a s.t o)) K s
 | k + 1,.opw a o l w,K,s=>match w with
  | some false=>vm G k (.ops a l) K ⟨kN s.t o.dst .und,s.h⟩
  | some true=>vm G k (.opg a o l (vN o)) K s
  | none=>False
 | k + 1,.opg a o l b,K,s=>match b with
  | true=>vm G k (.opc a o l (q9 s.t o)) K s
  | false=>vm G k (.opn a o l (zk7 G.E s.t o.op)) K s
 | k + 1,.opn a o l b,K,s=>match b with
  | true=>∀ b,vm G k (.ops a l) K ⟨kN s.t o.dst (.c (.bool b)),s.h⟩
  | false=>vm G k (.opf a o l (zkf G.E o.op s.t s.h)) K s
 | k + 1,.opc a o l c,K,s=>match c with
  | some (f,args)=>Cl G f args o a l K s
  | none=>False
 | k + 1,.opf a o l ids,K,s=>match ids with
  | []=>vm G k (.opv a o l (kE G.E o.op o.type s.t s.h s.h.length)) K s
  | id :: ids=>match qc (id :: ids) s with
   | s1=>vm G k (.opx a o l (zC a s1.t o)) K s1
 | k + 1,.opx a o l w,K,s=>match w with
  | some true=>vm G k (.opv a o l (kE G.E o.op o.type s.t s.h s.h.length)) K s
  | _=>False
 | k + 1,.opv a o l v,K,s=>match v with
  | some (v,U)=>vm G k (.ops a l) K ⟨kN s.t o.dst v,app s.h U⟩
  | none=>False
theorem xb.next {G:Ctx} {a:Array Oper} {o:Oper} {l:List Oper} {K:List Fr} {s s1:St} (h:xb G a l K s1)
  (hs:∀ i rest,a[i]?=some o → zB G.P G.n a rest (unw G K) s1 → zB G.P G.n a (i :: rest) (unw G K) s):xb G a (o :: l) K s:=fun pre hp=>by
 have hi:a[pre.length]?=some o:=by rw [← Array.getElem?_toList,hp];simp
 have:=h (pre ++ [o]) (by rw [hp];simp)
 simp only [List.length_append,List.length_singleton] at this
 rw [List.length_cons,List.range'_succ]
 exact hs _ _ hi this
theorem yl {G:Ctx} (T:zE G.P G.E):∀ (k:Nat) (m:Md) (K:List Fr) (s:St),vm G k m K s → Sem G m K s:=by
 intro k
 induction k with
 | zero=>intro m K s h;exact h
 | succ k ih =>
  intro m K s h
  cases m with
  | code c =>
   cases c with
   | skip=>exact Run.skip (ih _ _ _ h)
   | label _=>exact Run.label (ih _ _ _ h)
   | exit id=>exact Run.exit (ih _ _ _ h)
   | goto l=>exact Run.goto (ih _ _ _ h)
   | ret=>exact Run.ret (ih _ _ _ h)
   | seq x y=>exact Run.seq (ih _ _ _ h)
   | block id c=>exact Run.block (ih _ _ _ h)
   | cond c x y =>
    obtain ⟨b,hb,h⟩:=ih _ _ _ h
    exact Run.cond hb h
   | loop c=>exact h
   | region id a d =>
    cases d with
    | true=>exact h id
    | false =>
     have:=ih _ _ _ h [] rfl
     refine Run.region ?_
     rw [List.range_eq_range']
     simpa using this
   | rangeFunc _ _ _ _=>exact h
   | scope _=>exact Run.scope (ih _ _ _ h)
   | refuse _=>exact h
  | exit e =>
   cases K with
   | nil=>exact h
   | cons fr K =>
    cases fr with
    | seq y=>cases e <;> (simp only [vm] at h;have h2:=ih _ _ _ h;exact h2)
    | blk id =>
     cases e with
     | exit id' =>
      simp only [vm] at h
      simp only [Sem,unw,vU]
      split at h <;> rename_i he
      ·rw [if_pos he];have h2:=ih _ _ _ h;exact h2
      ·rw [if_neg he];have h2:=ih _ _ _ h;exact h2
     | _=>simp only [vm] at h;have h2:=ih _ _ _ h;exact h2
    | lp J =>
     cases e with
     | normal=>exact h
     | _=>simp only [vm] at h;have h2:=ih _ _ _ h;exact h2
    | scp =>
     cases e with
     | goto l=>exact h.elim
     | _=>simp only [vm] at h;have h2:=ih _ _ _ h;exact h2
  | br v x y =>
   simp only [vm] at h
   split at h
   ·rename_i b
    refine ⟨b,rfl,?_⟩
    cases b with
    | true=>exact ih _ _ _ (h.1 rfl)
    | false=>exact ih _ _ _ (h.2 rfl)
   ·exact h.elim
  | ops a l =>
   cases l with
   | nil=>exact fun pre hp=>zB.nil (ih _ _ _ h)
   | cons o l=>exact ih _ _ _ h rfl
  | opw a o l w =>
   intro hw
   simp only [vm] at h
   split at h
   ·exact xb.next (ih _ _ _ h) fun i rest hi hr=>zB.skip hi hw hr
   ·exact ih _ _ _ h hw rfl
   ·exact h.elim
  | opg a o l b =>
   intro hw hg
   simp only [vm] at h
   split at h
   ·exact ih _ _ _ h hw rfl
   ·exact ih _ _ _ h hw rfl
  | opn a o l b =>
   intro hw hq
   simp only [vm] at h
   split at h
   ·intro pre hp
    have hi:a[pre.length]?=some o:=by rw [← Array.getElem?_toList,hp];simp
    rw [List.length_cons,List.range'_succ]
    refine zB.zm7 T hi hw hq fun b=>?_
    have:=ih _ _ _ (h b) (pre ++ [o]) (by rw [hp];simp)
    simp only [List.length_append,List.length_singleton] at this
    exact this
   ·exact ih _ _ _ h hw
  | opc a o l c =>
   intro hw hc
   simp only [vm] at h
   split at h
   ·exact h hw hc
   ·exact h.elim
  | opf a o l ids =>
   intro hw
   cases ids with
   | nil=>exact ih _ _ _ h hw rfl
   | cons id ids =>
    have:=ih _ _ _ h rfl
    intro pre hp
    exact zB.qc (id :: ids) (this pre hp)
  | opx a o l w =>
   intro hw
   simp only [vm] at h
   split at h
   ·exact ih _ _ _ h hw rfl
   ·exact h.elim
  | opv a o l v =>
   intro hw hv
   simp only [vm] at h
   split at h
   ·exact xb.next (ih _ _ _ h) fun i rest hi hr=>zB.op T hi hw hv hr
   ·exact h.elim
section
variable {G:Ctx} {k:Nat} {K:List Fr} {s:St}
theorem zj0:vm G (k + 1) (.code .skip) K s=vm G k (.exit .normal) K s:=propext Iff.rfl
theorem ziv {l:Nat}:vm G (k + 1) (.code (.label l)) K s=vm G k (.exit .normal) K s:=propext Iff.rfl
theorem zkm {id:Nat}:vm G (k + 1) (.code (.exit id)) K s=vm G k (.exit (.exit id)) K s:=propext Iff.rfl
theorem zkE {l:Nat}:vm G (k + 1) (.code (.goto l)) K s=vm G k (.exit (.goto l)) K s:=propext Iff.rfl
theorem zlN:vm G (k + 1) (.code .ret) K s=vm G k (.exit .ret) K s:=propext Iff.rfl
theorem zlV {x y:Code}:vm G (k + 1) (.code (.seq x y)) K s=vm G k (.code x) (.seq y :: K) s:=propext Iff.rfl
theorem zi6 {id:Nat} {c:Code}:vm G (k + 1) (.code (.block id c)) K s=vm G k (.code c) (.blk id :: K) s:=propext Iff.rfl
theorem zky {c:Operand} {x y:Code}:vm G (k + 1) (.code (.cond c x y)) K s=vm G k (.br (opd s.t c) x y) K s:=propext Iff.rfl
theorem zjW {c:Code}:vm G (k + 1) (.code (.loop c)) K s=Lp G c K s:=propext Iff.rfl
theorem zgm {id:Nat} {a:Array Oper}:vm G (k + 1) (.code (.region id a false)) K s=vm G k (.ops a a.toList) K s:=propext Iff.rfl
theorem zjf {id:Nat} {a:Array Oper}:vm G (k + 1) (.code (.region id a true)) K s=Dr G a K s:=propext Iff.rfl
theorem zlC {e:Exit}:vm G (k + 1) (.exit e) [] s=G.Q e s:=propext Iff.rfl
theorem zk2 {y:Code}:vm G (k + 1) (.exit .normal) (.seq y :: K) s=vm G k (.code y) K s:=propext Iff.rfl
theorem YA {y:Code}:vm G (k + 1) (.exit .ret) (.seq y :: K) s=vm G k (.exit .ret) K s:=propext Iff.rfl
theorem W3 {y:Code} {id:Nat}:vm G (k + 1) (.exit (.exit id)) (.seq y :: K) s=vm G k (.exit (.exit id)) K s:=propext Iff.rfl
theorem zl8 {id:Nat}:vm G (k + 1) (.exit .normal) (.blk id :: K) s=vm G k (.exit .normal) K s:=propext Iff.rfl
theorem zdl {id:Nat}:vm G (k + 1) (.exit .ret) (.blk id :: K) s=vm G k (.exit .ret) K s:=propext Iff.rfl
theorem zau {id id':Nat}:vm G (k + 1) (.exit (.exit id')) (.blk id :: K) s=if id'=id then vm G k (.exit .normal) K s else vm G k (.exit (.exit id')) K s:=propext Iff.rfl
theorem zmJ {J:St → Prop}:vm G (k + 1) (.exit .normal) (.lp J :: K) s=J s:=propext Iff.rfl
theorem zfq {J:St → Prop}:vm G (k + 1) (.exit .ret) (.lp J :: K) s=vm G k (.exit .ret) K s:=propext Iff.rfl
theorem zdT {J:St → Prop} {id:Nat}:vm G (k + 1) (.exit (.exit id)) (.lp J :: K) s=vm G k (.exit (.exit id)) K s:=propext Iff.rfl
theorem ziU {c:Code}:vm G (k + 1) (.code (.scope c)) K s=vm G k (.code c) (.scp :: K) s:=propext Iff.rfl
theorem zmd:vm G (k + 1) (.exit .normal) (.scp :: K) s=vm G k (.exit .normal) K s:=propext Iff.rfl
theorem zdv:vm G (k + 1) (.exit .ret) (.scp :: K) s=vm G k (.exit .ret) K s:=propext Iff.rfl
theorem zai {id:Nat}:vm G (k + 1) (.exit (.exit id)) (.scp :: K) s=vm G k (.exit (.exit id)) K s:=propext Iff.rfl
theorem zdE {x y:Code}:vm G (k + 1) (.br (some (.c (.bool true))) x y) K s=vm G k (.code x) K s:=propext ⟨fun h=>h.1 rfl,fun h=>⟨fun _=>h,fun h=>by cases h⟩⟩
theorem zaj {x y:Code}:vm G (k + 1) (.br (some (.c (.bool false))) x y) K s=vm G k (.code y) K s:=propext ⟨fun h=>h.2 rfl,fun h=>⟨fun h=>(by cases h),fun _=>h⟩⟩
theorem QB {b:Bool} {x y:Code} (h1:b=true → vm G k (.code x) K s) (h2:b=false → vm G k (.code y) K s):vm G (k + 1) (.br (some (.c (.bool b))) x y) K s:=⟨h1,h2⟩
theorem zci {a:Array Oper}:vm G (k + 1) (.ops a []) K s=vm G k (.exit .normal) K s:=propext Iff.rfl
theorem zlq {a:Array Oper} {o:Oper} {l:List Oper}:vm G (k + 1) (.ops a (o :: l)) K s=vm G k (.opw a o l (zC a s.t o)) K s:=propext Iff.rfl
theorem zam {a:Array Oper} {o:Oper} {l:List Oper}:vm G (k + 1) (.opw a o l (some true)) K s=vm G k (.opg a o l (vN o)) K s:=propext Iff.rfl
theorem X2 {a:Array Oper} {o:Oper} {l:List Oper}:vm G (k + 1) (.opw a o l (some false)) K s=vm G k (.ops a l) K ⟨kN s.t o.dst .und,s.h⟩:=propext Iff.rfl
theorem zaJ {a:Array Oper} {o:Oper} {l:List Oper}:vm G (k + 1) (.opg a o l true) K s=vm G k (.opc a o l (q9 s.t o)) K s:=propext Iff.rfl
theorem XV {a:Array Oper} {o:Oper} {l:List Oper}:vm G (k + 1) (.opg a o l false) K s=vm G k (.opn a o l (zk7 G.E s.t o.op)) K s:=propext Iff.rfl
theorem zaG {a:Array Oper} {o:Oper} {l:List Oper}:vm G (k + 1) (.opn a o l true) K s = ∀ b,vm G k (.ops a l) K ⟨kN s.t o.dst (.c (.bool b)),s.h⟩:=propext Iff.rfl
theorem WQ {a:Array Oper} {o:Oper} {l:List Oper}:vm G (k + 1) (.opn a o l false) K s=vm G k (.opf a o l (zkf G.E o.op s.t s.h)) K s:=propext Iff.rfl
theorem zl0 {a:Array Oper} {o:Oper} {l:List Oper} {f:FuncId} {args:List AV}:vm G (k + 1) (.opc a o l (some (f,args))) K s=Cl G f args o a l K s:=propext Iff.rfl
theorem zdb {a:Array Oper} {o:Oper} {l:List Oper}:vm G (k + 1) (.opf a o l []) K s=vm G k (.opv a o l (kE G.E o.op o.type s.t s.h s.h.length)) K s:=propext Iff.rfl
theorem zaR {a:Array Oper} {o:Oper} {l:List Oper} {id:Nat} {ids:List Nat}:vm G (k + 1) (.opf a o l (id :: ids)) K s=vm G k (.opx a o l (zC a (qc (id :: ids) s).t o)) K (qc (id :: ids) s):=propext Iff.rfl
theorem zlW {a:Array Oper} {o:Oper} {l:List Oper}:vm G (k + 1) (.opx a o l (some true)) K s=vm G k (.opv a o l (kE G.E o.op o.type s.t s.h s.h.length)) K s:=propext Iff.rfl
theorem zlF {a:Array Oper} {o:Oper} {l:List Oper} {v:AV} {U:List (Nat × zf)}:vm G (k + 1) (.opv a o l (some (v,U))) K s=vm G k (.ops a l) K ⟨kN s.t o.dst v,app s.h U⟩:=propext Iff.rfl
theorem YE {a:Array Oper} {o:Oper} {l:List Oper}:vm G (k + 1) (.opv a o l none) K s=False:=propext Iff.rfl
theorem zgO {a:Array Oper} {o:Oper} {l:List Oper} {p:Prop} [Decidable p] {x:Option (AV × List (Nat × zf))}:vm G (k + 1) (.opv a o l (if p then x else none)) K s=(p ∧ vm G (k + 1) (.opv a o l x) K s):=by
 by_cases h:p
 ·rw [if_pos h];simp [h]
 ·rw [if_neg h];simp [h,vm]
theorem zcO {a:Array Oper} {o:Oper} {l:List Oper} {p:Prop} [Decidable p] {x:Option (AV × List (Nat × zf))}:vm G (k + 1) (.opv a o l (if p then none else x)) K s=(¬ p ∧ vm G (k + 1) (.opv a o l x) K s):=by
 by_cases h:p
 ·rw [if_pos h];simp [h,vm]
 ·rw [if_neg h];simp [h]
theorem zcI {a:Array Oper} {o:Oper} {l:List Oper} {α:Type} {xs:List α} {i:Nat} {f:α → AV × List (Nat × zf)}:vm G (k + 1) (.opv a o l (xs[i]?.map f)) K s = ∃ h:i < xs.length,vm G (k + 1) (.opv a o l (some (f xs[i]))) K s:=by
 by_cases h:i < xs.length
 ·rw [List.getElem?_eq_getElem h];simp [h]
 ·rw [List.getElem?_eq_none (by omega)];simp [h,vm]
theorem Cl.of {f:FuncId} {args:List AV} {o:Oper} {a:Array Oper} {l:List Oper} {r:AV} {h':List zf} (T:zE G.P G.E) (k:Nat) (GG:Good G.P f args s.h r h') (h:vm G k (.ops a l) K ⟨kN s.t o.dst r,h'⟩):Cl G f args o a l K s:=fun hw hc=>by
 obtain ⟨c,fo,fv,args,caps,q1,q2,q3,q4,q5,rfl⟩:=vq hc
 exact xb.next (yl T _ _ _ _ h) fun i rest hi hr=>zB.call hi hw q1 q2 q3 q5 q4 GG hr
theorem Cl.fz {f:FuncId} {args:List AV} {o:Oper} {a:Array Oper} {l:List Oper} (T:zE G.P G.E) (k:Nat) (ids:List Nat) (h:vm G k (.ops a (o :: l)) K (qc ids s)):Cl G f args o a l K s:=fun _ _ pre hp =>
 zB.qc ids (yl T _ _ _ _ h pre hp)
theorem Cl.pure {f:FuncId} {args cs:List AV} {o:Oper} {a:Array Oper} {l:List Oper} {r:AV} (T:zE G.P G.E) (k:Nat) (GG:Good G.P f cs [] r []) (hs:jK s.h args=some cs) (hr:r.cl=true) (h:vm G k (.ops a l) K ⟨kN s.t o.dst r,after s.h args r⟩):Cl G f args o a l K s:=
 Cl.of T k (Good.pure GG hs hr) h
theorem Lp.of {c:Code} (T:zE G.P G.E) (k:Nat) (I:Nat → St → Prop) (m:Nat) (h0:I m s) (round:∀ m s,I m s → vm G k (.code c) (.lp (fun s'=>∃ j,j < m ∧ I j s') :: K) s):Lp G c K s:=
 Run.loop I m h0 fun m s1 hI=>yl T _ _ _ _ (round m s1 hI)
theorem Lp.gc {c:Code} (T:zE G.P G.E) (k:Nat) (p q:Nat) (hq:G.n ≤ q) (I:Nat → St → Prop) (m:Nat) (h0:I m (Ev.gc p q s)) (round:∀ m s,I m s → vm G k (.code c) (.lp (fun s'=>∃ j,j < m ∧ I j (Ev.gc p q s')) :: K) s):Lp G c K s:=
 Run.zmc p q hq I m h0 fun m s1 hI=>yl T _ _ _ _ (round m s1 hI)
theorem zjK {P:Program} {E:Env} (T:zE P E) {n:Nat} {c:Code} {Q:Exit → St → Prop} (k:Nat) (h:vm ⟨P,E,n,Q⟩ k (.code c) [] s):Run P n c Q s:=yl (G:=⟨P,E,n,Q⟩) T _ _ _ _ h
theorem Lp.fz {c:Code} (ids:List Nat) (h:Lp G c K (qc ids s)):Lp G c K s:=by
 have:∀ (ids:List Nat) (s:St),Lp G c K (qc ids s) → Lp G c K s:=fun ids=>by
  induction ids with
  | nil=>intro s h;exact h
  | cons id ids ih=>intro s h;exact Run.freeze id (ih _ h)
 exact this ids s h
end
theorem Good.zfA {P:Program} {E:Env} (T:zE P E) {f:FuncId} {fn:Func} {c:Code} {args:List AV} {h h':List zf} {r:AV} (Fin:AV → List zf → Prop) (hf:P.funcs[f]?=some fn) (hb:fn.body=some c) (hn:(fn.name == "runtime.NumGoroutine")=false)
  (fin:∀ (X:Ent) (a:Act) (w:World) (v:AV) (k:List zf),X.h=h → Fin v k → Sim X ⟨[v],k⟩ a w → Sim X ⟨[r],h'⟩ a w)
  (hrun:Run P h.length c (fun e s=>(e = .normal ∨ e = .ret) ∧ ∃ v,zeb E fn.results.toList s=some v ∧ Fin v s.h) ⟨args ++ List.replicate (fn.ntmps - args.length) .und,h⟩):Good P f args h r h':=by
 intro w N ρ vs H hsc hl hrep
 refine .inl ⟨by (have hn':¬ fn.name = "runtime.NumGoroutine":=by simpa using hn);simp [callFunc,go_sem,hf,hn',hb],?_⟩
 refine calls_of_wp hf hb ?_
 let X:Ent:=⟨N,h,ρ,w⟩
 have hs:Sim X ⟨args ++ List.replicate (fn.ntmps - args.length) .und,h⟩ { tmps:=vs.toArray ++ Array.replicate (fn.ntmps - vs.toArray.size) undef,defers:=[] } w:=by
  refine ⟨N,ρ,H,⟨by simp [hl],fun i v hv=>?_,H.glob⟩,?_,Kept.refl _ _ _ _,rfl⟩
  ·simp only at hv ⊢
   by_cases hlt:i < args.length
   ·rw [List.getElem?_append_left hlt,List.getElem?_eq_getElem hlt] at hv
    cases hv
    exact ⟨vs[i],by rw [Array.getElem?_append_left (by simp;omega)];simp [show i < vs.length by omega],hrep i hlt (by omega)⟩
   ·rw [List.getElem?_append_right (by omega)] at hv
    have h1:=List.getElem?_eq_some_iff.1 hv
    obtain ⟨h2,h3⟩:=h1
    simp only [List.getElem_replicate] at h3
    subst h3
    simp only [List.length_replicate] at h2
    refine ⟨undef,?_,.und⟩
    rw [Array.getElem?_append_right (by simp;omega)]
    simp only [List.size_toArray,Array.getElem?_replicate]
    rw [if_pos (by omega)]
  ·refine ze.2 fun x hx=>?_
   rcases List.mem_append.1 hx with h1 | h1
   ·exact ze.1 hsc x h1
   ·rw [(List.mem_replicate.1 h1).2];rfl
 refine wp_mono (hrun X _ _ (Nat.le_refl _) hs) ?_
 rintro e a' w' ⟨s',⟨N',ρ',S⟩,he,v,hr,hF⟩
 obtain ⟨x,hx,hrx,hsx⟩:=Ja T S hr
 have ho:zn N h ρ w r h' x w':=zn.sim.2 (fin ⟨N,h,ρ,w⟩ ⟨#[x],[]⟩ w' v s'.h rfl hF (zn.sim.1 ⟨⟨N',ρ',S.heap,hrx,S.kept,hsx⟩⟩))
 have out:a'.defers=[] ∧ ∃ v,(results fn a'.tmps).run P w' = .ok v w' ∧ ∃ v_1,Ending.returned v = .returned v_1 ∧ zn N h ρ w r h' v_1 w':=⟨S.defers,x,hx,x,rfl,ho⟩
 rcases he with rfl | rfl
 ·exact out
 ·exact out
theorem ziK {m:Nat} {r:AV} {h1:List zf} (hs:stays m r h1=true):gc 1 m ⟨[r],h1⟩=⟨[r],h1.take m⟩:=by
 simp only [stays,Bool.and_eq_true] at hs
 simp only [gc,List.take_succ_cons,List.take_zero,List.map_cons,List.map_nil,List.length_singleton,Nat.sub_self,List.replicate_zero,List.append_nil]
 rw [xO hs.1]
 congr 1
 have:∀ l:List zf,(∀ x,x ∈ l → inB (born (h1.take m)) x=true) → l.map (j7 (born (h1.take m)))=l:=fun l=>by
  induction l with
  | nil=>intro _;rfl
  | cons x l ih=>intro hl;simp only [List.map_cons];rw [Vh (hl x (by simp)),ih fun y hy=>hl y (by simp [hy])]
 exact this _ (List.all_eq_true.1 hs.2)
def zm8 (E:Env) (rs:List ResultVar) (m:Nat) (r:AV) (h':List zf) (e:Exit) (s:St):Prop:=
 (e = .normal ∨ e = .ret) ∧ match kx m (s.h.length - m) s with
  | s1=>zeb E rs s1=some r ∧ stays m r s1.h=true ∧ s1.h.take m=h'
def CLe (a b:CV):Prop:=∀ (w:World) (N:Nat → Prop) (v:Value),kX w N a v → kX w N b v
theorem CLe.refl (a:CV):CLe a a:=fun _ _ _ h=>h
theorem CLe.nl (sz:Nat) (x:Bool):CLe .nl (.lst sz x []):=fun w N v h=>by
 cases h
 exact kX.lst sz x [] none 0 (fun _ _=>undef) (fun _=>rfl) (by simp) (by omega) (by simp) (fun j i hj=>absurd hj (by simp)) (fun j i hj=>absurd hj (by simp))
inductive zck:List CV → List CV → Prop
 | nil:zck [] []
 | cons {a b:CV} {l m:List CV} (h:CLe a b) (t:zck l m):zck (a :: l) (b :: m)
inductive Q4:List (List CV) → List (List CV) → Prop
 | nil:Q4 [] []
 | cons {a b:List CV} {l m:List (List CV)} (h:zck a b) (t:Q4 l m):Q4 (a :: l) (b :: m)
theorem zck.refl:∀ l:List CV,zck l l
 | []=>.nil
 | a :: l=>.cons (CLe.refl a) (zck.refl l)
theorem Q4.refl:∀ l:List (List CV),Q4 l l
 | []=>.nil
 | a :: l=>.cons (zck.refl a) (Q4.refl l)
theorem zck.len:∀ {l m:List CV},zck l m → l.length=m.length
 | _,_,.nil=>rfl
 | _,_,.cons _ t=>by simp [t.len]
theorem Q4.len:∀ {l m:List (List CV)},Q4 l m → l.length=m.length
 | _,_,.nil=>rfl
 | _,_,.cons _ t=>by simp [t.len]
theorem zck.get:∀ {l m:List CV} (_:zck l m) (i:Nat) (h1:i < l.length) (h2:i < m.length),CLe l[i] m[i]
 | _,_,.cons h _,0,_,_=>h
 | _,_,.cons _ t,i + 1,h1,h2=>t.get i (by simpa using h1) (by simpa using h2)
theorem Q4.get:∀ {l m:List (List CV)} (_:Q4 l m) (i:Nat) (h1:i < l.length) (h2:i < m.length),zck l[i] m[i]
 | _,_,.cons h _,0,_,_=>h
 | _,_,.cons _ t,i + 1,h1,h2=>t.get i (by simpa using h1) (by simpa using h2)
theorem CLe.lst {sz:Nat} {x:Bool} {y:Bool} {xs ys:List (List CV)} (hy:y=true → x=true) (h:Q4 xs ys):CLe (.lst sz x xs) (.lst sz y ys):=fun w N v hv=>by
 cases hv with
 | lst _ _ _ A c V hx hc hm hsz hcell hrep =>
  have hl:=h.len
  rw [hl]
  refine .lst sz y ys A c V (fun e=>by rw [← hl];exact hx (hy e)) (by omega) hm (fun e he=>?_) (fun j i hj hi=>hcell j i (by omega) hi) (fun j i hj hi=>?_)
  ·obtain ⟨i,hi,rfl⟩:=List.getElem_of_mem he
   rw [← (h.get i (by omega) hi).len];exact hsz _ (List.getElem_mem _)
  ·have h1:=h.get j (by omega) hj
   exact h1.get i (by rw [h1.len];exact hi) hi _ _ _ (hrep j i (by omega) (by rw [h1.len];exact hi))
structure Le (a b:AV):Prop where
 rep:∀ (w:World) (N:Nat → Prop) (ρ:Nat → Pl) (v:Value),zo w N ρ a v → zo w N ρ b v
 sc:∀ q,a.sc q=true → b.sc q=true
theorem Le.refl (a:AV):Le a a:=⟨fun _ _ _ _ h=>h,fun _ h=>h⟩
theorem Le.of_eq {a b:AV} (h:a=b):Le a b:=h ▸ Le.refl a
theorem Le.Wn (a:AV):Le a a=True:=propext ⟨fun _=>trivial,fun _=>Le.refl a⟩
theorem Le.c {a b:CV} (h:CLe a b):Le (.c a) (.c b):=⟨fun w N ρ v hv=>by cases hv with | c hv=>exact .c (h w N v hv),fun _ _=>rfl⟩
inductive Les:List AV → List AV → Prop
 | nil:Les [] []
 | cons {a b:AV} {l m:List AV} (h:Le a b) (t:Les l m):Les (a :: l) (b :: m)
theorem Les.refl:∀ l:List AV,Les l l
 | []=>.nil
 | a :: l=>.cons (Le.refl a) (Les.refl l)
theorem Les.Wn (a:List AV):Les a a=True:=propext ⟨fun _=>trivial,fun _=>Les.refl a⟩
theorem Les.len:∀ {l m:List AV},Les l m → l.length=m.length
 | _,_,.nil=>rfl
 | _,_,.cons _ t=>by simp [t.len]
theorem Les.get:∀ {l m:List AV} (_:Les l m) (i:Nat) (h1:i < l.length) (h2:i < m.length),Le l[i] m[i]
 | _,_,.cons h _,0,_,_=>h
 | _,_,.cons _ t,i + 1,h1,h2=>t.get i (by simpa using h1) (by simpa using h2)
theorem Les.sc:∀ {l m:List AV} (_:Les l m) (q:Nat → Bool),AV.sc.scAll q l=true → AV.sc.scAll q m=true
 | _,_,.nil,_,h=>h
 | _,_,.cons h t,q,hs=>by
  simp only [AV.sc.scAll,Bool.and_eq_true] at hs ⊢
  exact ⟨h.sc q hs.1,t.sc q hs.2⟩
theorem Le.agg {l m:List AV} (h:Les l m):Le (.agg l) (.agg m):=⟨fun w N ρ v hv=>by
 cases hv with
 | agg _ vs hl hr=>exact .agg m vs (by rw [← h.len];exact hl) fun i a b=>(h.get i (by rw [h.len];exact a) a).rep _ _ _ _ (hr i _ b),fun q hs=>h.sc q hs⟩
theorem Le.tup {l m:List AV} (h:Les l m):Le (.tup l) (.tup m):=⟨fun w N ρ v hv=>by
 cases hv with
 | tup _ vs hl hr=>exact .tup m vs (by rw [← h.len];exact hl) fun i a b=>(h.get i (by rw [h.len];exact a) a).rep _ _ _ _ (hr i _ b),fun q hs=>h.sc q hs⟩
theorem Good.zkq {P:Program} {f:FuncId} {args args':List AV} {h h':List zf} {r:AV} (hle:Les args args') (G:Good P f args' h r h'):Good P f args h r h':=fun w N ρ vs H hs hl hr =>
 G w N ρ vs H (hle.sc _ hs) (by rw [← hle.len];exact hl) fun i h1 h2=>(hle.get i (by rw [hle.len];exact h1) h1).rep _ _ _ _ (hr i _ h2)
theorem Good.le {P:Program} {f:FuncId} {args:List AV} {h h':List zf} {r r':AV} (hle:Le r r') (G:Good P f args h r h'):Good P f args h r' h':=fun w N ρ vs H hs hl hr =>
 (G w N ρ vs H hs hl hr).mono fun v w' ⟨⟨N',ρ',H',hr',K,hsc⟩⟩=>⟨⟨N',ρ',H',hle.rep _ _ _ _ hr',K,hle.sc _ hsc⟩⟩
def zq (a b:AV):Prop:=b = .dead ∨ Le a b
theorem zhb (a:AV):zq a .dead=True:=propext ⟨fun _=>trivial,fun _=>.inl rfl⟩
theorem zf2 (a:AV):zq a a=True:=propext ⟨fun _=>trivial,fun _=>.inr (Le.refl a)⟩
theorem zq.le {a b:AV} (h:Le a b):zq a b:=.inr h
theorem zq.of_eq {a b:AV} (h:a=b):zq a b:=.inr (Le.of_eq h)
def Fit:List AV → List AV → Prop
 | [],[]=>True
 | a :: l,b :: m=>zq a b ∧ Fit l m
 | _,_=>False
theorem Fit.len:∀ {l m:List AV},Fit l m → l.length=m.length
 | [],[],_=>rfl
 | a :: l,b :: m,h=>by simp [Fit.len h.2]
 | [],_ :: _,h=>h.elim
 | _ :: _,[],h=>h.elim
theorem Fit.get:∀ {l m:List AV} (_:Fit l m) (i:Nat) (b:AV),m[i]?=some b → ∃ a,l[i]?=some a ∧ zq a b
 | [],[],_,i,b,h=>by simp at h
 | a :: l,b :: m,h,0,c,hc=>by simp at hc;subst hc;exact ⟨a,rfl,h.1⟩
 | a :: l,b :: m,h,i + 1,c,hc=>by
  obtain ⟨x,h1,h2⟩:=Fit.get h.2 i c (by simpa using hc)
  exact ⟨x,by simpa using h1,h2⟩
 | [],_ :: _,h,_,_,_=>h.elim
 | _ :: _,[],h,_,_,_=>h.elim
def zle (q:Nat) (s u:St):Prop:=Fit s.t u.t ∧ s.h.take q=u.h ∧ AV.sc.scAll (born u.h) u.t=true ∧ u.h.all (inB (born u.h))=true
theorem Sim.fit {X:Ent} {s u:St} {a:Act} {w:World} (hs:Sim X s a w) (q:Nat) (hq:X.h.length ≤ q) (hf:zle q s u):Sim X u a w:=by
 obtain ⟨h1,h2,h3,h4⟩:=hf
 have hmono:∀ i,born u.h i=true → born s.h i=true:=fun i hi=>by
  rw [← h2] at hi
  have hlt:=JG hi
  rw [List.length_take] at hlt
  unfold born at hi ⊢
  rw [List.getElem?_take_of_lt (by omega)] at hi
  exact hi
 have s1:Sim X ⟨u.t,s.h⟩ a w:=by
  obtain ⟨N,ρ,S⟩:=hs
  refine ⟨N,ρ,S.heap,⟨by rw [← h1.len];exact S.slots.len,fun i v hv=>?_,S.slots.glob⟩,AV.zQ.all hmono _ h3,S.kept,S.defers⟩
  obtain ⟨v0,hv0,hl⟩:=h1.get i v hv
  obtain ⟨x,hx,hr⟩:=S.slots.rep i v0 hv0
  refine ⟨x,hx,?_⟩
  rcases hl with rfl | hl
  ·exact .dead _
  ·exact hl.rep _ _ _ _ hr
 have s2:=s1.gc u.t.length q hq
 have e:Ev.gc u.t.length q ⟨u.t,s.h⟩=u:=by
  have e1:∀ l:List AV,AV.sc.scAll (born u.h) l=true → l.map (ZB (born u.h))=l:=fun l=>by
   induction l with
   | nil=>intro _;rfl
   | cons x l ih =>
    intro hl
    simp only [AV.sc.scAll,Bool.and_eq_true] at hl
    simp only [List.map_cons];rw [xO hl.1,ih hl.2]
  have e2:∀ l:List zf,l.all (inB (born u.h))=true → l.map (j7 (born u.h))=l:=fun l=>by
   induction l with
   | nil=>intro _;rfl
   | cons x l ih =>
    intro hl
    simp only [List.all_cons,Bool.and_eq_true] at hl
    simp only [List.map_cons];rw [Vh hl.1,ih hl.2]
  simp only [Ev.gc,List.take_length,h2,Nat.sub_self,List.replicate_zero,List.append_nil]
  rw [e1 _ h3,e2 _ h4]
 rw [e] at s2
 exact s2
theorem Lp.fit {G:Ctx} {K:List Fr} {s:St} {c:Code} (T:zE G.P G.E) (k:Nat) (q:Nat) (hq:G.n ≤ q) {α:Type} (μ:α → Nat) (I:α → Prop) (S:α → St) (a0:α) (h0:I a0) (hs:zle q s (S a0))
  (round:∀ a,I a → vm G k (.code c) (.lp (fun s'=>∃ a',μ a' < μ a ∧ I a' ∧ zle q s' (S a')) :: K) (S a)):Lp G c K s:=by
 refine Run.from (fun X a w hX hx=>hx.fit q (Nat.le_trans hX hq) hs) ?_
 refine Run.loop (fun m s1=>∃ a,m = μ a ∧ I a ∧ s1=S a) (μ a0) ⟨a0,rfl,h0,rfl⟩ ?_
 rintro m s1 ⟨a,rfl,ha,rfl⟩
 refine Run.turn (yl T _ _ _ _ (round a ha)) fun e s2 X act w hX hq2 hs2=>?_
 cases e with
 | normal =>
  obtain ⟨a',h1,h2,h3⟩:=hq2
  exact ⟨_,hs2.fit q (Nat.le_trans hX hq) h3,_,h1,a',rfl,h2,rfl⟩
 | _=>exact ⟨s2,hs2,hq2⟩
attribute [go_sem] zle Fit zhb zf2
def zmT (o:Option AV) (m:Nat) (h:List zf) (r:AV):Prop:=∃ r1,o=some r1 ∧ stays m r1 h=true ∧ Le r1 r
theorem zgU (r1:AV) (m:Nat) (h:List zf) (r:AV):zmT (some r1) m h r=(stays m r1 h=true ∧ Le r1 r):=propext ⟨fun ⟨_,h1,h2⟩=>by cases h1;exact h2,fun h=>⟨_,rfl,h⟩⟩
def znk (E:Env) (rs:List ResultVar) (m:Nat) (r:AV) (h':List zf) (e:Exit) (s:St):Prop:=
 (e = .normal ∨ e = .ret) ∧ match kx m (s.h.length - m) s with
  | s1=>zmT (zeb E rs s1) m s1.h r ∧ s1.h.take m=h'
attribute [go_sem] znk zgU Le.Wn Les.Wn
def yj:List Oper → Nat → Option Tmp
 | [],_=>none
 | o :: _,0=>o.dst
 | _ :: l,j + 1=>yj l j
def zfd (w:Bool):Option AV → Option Bool
 | some (.c (.bool b))=>some (b == w)
 | some .und=>some false
 | _=>none
def X3 (w:Bool) (t:List AV):Option Tmp → Option Bool
 | none=>none
 | some d=>zfd w t[d]?
theorem WD:∀ (l:List Oper) (j:Nat),yj l j=(l[j]?).bind (·.dst)
 | [],j=>by simp [yj]
 | o :: l,0=>by simp [yj]
 | o :: l,j + 1=>by simp only [yj,WD l j,List.getElem?_cons_succ]
theorem Wv {a:Array Oper} {t:List AV} {d:Option Tmp} {op:Op} {ty:TypeId} {pos:String} {af:Array Edge}:zC a t ⟨d,op,ty,pos,af,none⟩=some true:=rfl
theorem Xz {l:List Oper} {t:List AV} {d:Option Tmp} {op:Op} {ty:TypeId} {pos:String} {af:Array Edge} {j:Nat} {w:Bool}:zC l.toArray t ⟨d,op,ty,pos,af,some (j,w)⟩=X3 w t (yj l j):=by
 unfold zC
 simp only [List.getElem?_toArray,WD]
 cases (l[j]?).bind (·.dst) with
 | none=>rfl
 | some d=>simp only [Option.bind_some,X3,zfd];try rfl
def zmi (b:Bool) (t:List AV):Option Tmp → List AV
 | none=>t
 | some d=>t.set d (.c (.bool b))
def fixF (b:Bool) (t:List AV):Option Tmp → List AV
 | none=>t
 | some d=>match t[d]? with
  | some (.c (.bool _))=>t.set d (.c (.bool b))
  | _=>t
theorem zdY {w:Bool} {t:List AV} {d:Option Tmp} (h:X3 w t d=some true):zmi w t d=t:=by
 cases d with
 | none=>rfl
 | some d =>
  simp only [X3] at h
  simp only [zmi]
  cases hd:t[d]? with
  | none=>rw [hd] at h;cases h
  | some v =>
   rw [hd] at h
   unfold zfd at h
   split at h
   ·rename_i b hb
    cases hb
    have:b=w:=by cases b <;> cases w <;> first | rfl | cases h
    subst this
    obtain ⟨h1,h2⟩:=List.getElem?_eq_some_iff.1 hd
    exact h2 ▸ List.set_getElem_self h1
   ·cases h
   ·cases h
theorem zaS {w:Bool} {t:List AV} {d:Option Tmp} (h:X3 w t d=some false):fixF (!w) t d=t:=by
 cases d with
 | none=>rfl
 | some d =>
  simp only [X3] at h
  simp only [fixF]
  split
  ·rename_i b hd
   rw [hd] at h
   have:b = !w:=by simp only [zfd] at h;cases b <;> cases w <;> first | rfl | cases h
   subst this
   obtain ⟨h1,h2⟩:=List.getElem?_eq_some_iff.1 hd
   exact h2 ▸ List.set_getElem_self h1
  ·rfl
theorem wZ {G:Ctx} {k:Nat} {K:List Fr} {t:List AV} {h:List zf} {os l:List Oper} {d:Option Tmp} {op:Op} {ty:TypeId} {pos:String} {af:Array Edge} {j:Nat} {w b:Bool} (hw:X3 w t (yj os j)=some b)
  (h1:b=true → vm G k (.opg os.toArray ⟨d,op,ty,pos,af,some (j,w)⟩ l (vN ⟨d,op,ty,pos,af,some (j,w)⟩)) K ⟨zmi w t (yj os j),h⟩)
  (h2:b=false → vm G k (.ops os.toArray l) K ⟨kN (fixF (!w) t (yj os j)) d .und,h⟩):vm G (k + 1) (.opw os.toArray ⟨d,op,ty,pos,af,some (j,w)⟩ l (some b)) K ⟨t,h⟩:=by
 cases b with
 | true =>
  have:=h1 rfl
  rw [zdY hw] at this
  exact this
 | false =>
  have:=h2 rfl
  rw [zaS hw] at this
  exact this
theorem zg2 (b:Bool):(b == true)=b:=by cases b <;> rfl
theorem zc4 (b:Bool):(b == false) = !b:=by cases b <;> rfl
theorem zkU {α:Type} (l:List α) (i:Nat):(Array.mk l)[i]?=l[i]?:=List.getElem?_toArray
attribute [go_sem] zkU List.replicate List.length_cons List.length_nil List.cons_append List.nil_append zj0 ziv zkm zkE zlN zlV zi6 zky zjW zgm zjf zlC zk2 YA W3 zl8 zdl zau zmJ zfq zdT ziU zmd zdv zai zdE zaj zci zlq zam X2 zaJ XV zaG WQ zk7 zls zgz zl0 zdb zaR zlW zlF YE zgO zcO zcI Wv Xz zmi fixF yj X3 zfd zg2 zc4 Bool.not_true Bool.not_false beq_self_eq_true decide_true decide_false vN zkf zmU zmP wQ zj6 q9 zfL jj Jt kE opd zjU zlu Option.map_some Option.map_none Option.bind_some Option.bind_none kN app qW List.set_cons_zero List.set_cons_succ List.getElem?_cons_zero List.getElem?_cons_succ List.getElem?_nil zf.avs JD Zg xq zhA XG Qd xI Vr Kf zaF V4 kK Kd xm parts yO oneOf asVar JO qt kS kS.closeAll Qg zmj XT kU zgn XK vG Qe Ko jM sliceB xD chunk kI vR y8 wT wG Jo WZ QR zbM wI zmp wo wS jk rowOf wY yH Kp zmo zmm zbB isNil eqC Q7 ziY JX jH zga aEq zl7 aUn Xy kH cellsOf jK snap after kill AV.cl AV.cl.clAll AV.flat AV.flat.flatAll CV.flat kx freeze kV kV.frzAll zeh qc zfM Jg zfU zeb stays zm8 inB AV.sc AV.sc.scAll born List.map_cons List.map_nil List.take_succ_cons List.take_zero List.take_nil List.drop_succ_cons List.drop_zero List.drop_nil List.all_cons List.all_nil Bool.and_true Bool.true_and Bool.and_false Bool.false_and List.flatMap_nil List.flatMap_cons
end Go.Ev
namespace Go.Ev
open Go.RowKit
variable [qo]
abbrev Entry:=FuncId × List AV × AV
open Classical in
noncomputable def pick:List Entry → FuncId → List AV → Option AV
 | [],_,_=>none
 | e :: l,f,cs=>if f=e.1 ∧ cs=e.2.1 then some e.2.2 else pick l f cs
theorem zbR:∀ {l:List Entry} {f:FuncId} {cs:List AV} {r:AV},pick l f cs=some r → (f,cs,r) ∈ l
 | [],_,_,_,h=>by simp [pick] at h
 | e :: l,f,cs,r,h=>by
  simp only [pick] at h
  split at h
  ·rename_i hc
   obtain ⟨rfl,rfl⟩:=hc
   cases h
   exact List.mem_cons_self ..
  ·exact List.mem_cons_of_mem _ (zbR h)
theorem zix {l:List Entry} {f:FuncId} {cs:List AV} {r:AV}:pick ((f,cs,r) :: l) f cs=some r:=by simp [pick]
theorem KE {l:List Entry} {f g:FuncId} {cs ds:List AV} {r:AV} (h:f ≠ g):pick ((g,ds,r) :: l) f cs=pick l f cs:=by simp [pick,h]
def zcu:AV → Bool
 | .sl _ _ _=>false
 | _=>true
theorem Je:∀ (args:List AV) (h:List zf),args.all zcu=true → kill h args=h
 | [],_,_=>rfl
 | v :: vs,h,hl=>by
  simp only [List.all_cons,Bool.and_eq_true] at hl
  cases v <;> first | (simp only [kill];exact Je vs h hl.2) | (simp [zcu] at hl)
noncomputable def orc (l:List Entry) (f:FuncId) (args:List AV) (h:List zf):Option AV:=match jK h args with
 | some cs=>match pick l f cs with
  | some r=>if r.flat || args.all zcu then some r else none
  | none=>none
 | none=>none
def Told (P:Program):List Entry → Prop
 | []=>True
 | e :: l=>(Good P e.1 e.2.1 [] e.2.2 [] ∧ e.2.2.cl=true) ∧ Told P l
theorem Told.mem {P:Program}:∀ {l:List Entry},Told P l → ∀ e,e ∈ l → Good P e.1 e.2.1 [] e.2.2 [] ∧ e.2.2.cl=true
 | [],_,e,h=>by cases h
 | x :: l,ht,e,h=>by
  rcases List.mem_cons.1 h with rfl | h
  ·exact ht.1
  ·exact Told.mem ht.2 e h
theorem zjS {P:Program} {l:List Entry} (ht:Told P l):Kg P (orc l):=fun f args h r hr=>by
 unfold orc at hr
 split at hr
 ·rename_i cs hs
  split at hr
  ·rename_i r1 hp
   split at hr
   ·rename_i hc
    cases hr
    obtain ⟨g1,g2⟩:=ht.mem _ (zbR hp)
    have:=Good.pure g1 hs g2
    have e:after h args r=h:=by
     unfold after
     split
     ·rfl
     ·rename_i hf
      simp only [Bool.or_eq_true] at hc
      exact Je _ _ (hc.resolve_left hf)
    rw [e] at this
    exact this
   ·cases hr
  ·cases hr
 ·cases hr
inductive Dm where
 | ops (l:List Oper)
 | w (o:Oper) (l:List Oper) (w:Option Bool)
 | g (o:Oper) (l:List Oper) (b:Bool)
 | c (o:Oper) (l:List Oper) (c:Option (FuncId × List AV))
 | r (o:Oper) (l:List Oper) (R:List Nat) (r:Option AV)
 | v (o:Oper) (l:List Oper) (v:Option (AV × List (Nat × zf)))
 | p (o:Oper) (l:List Oper) (v:AV) (U:List (Nat × zf)) (b:Option zf)
def jy (G:Ctx) (a:Array Oper) (rs:List Rec) (K:List Fr) (s:St):Prop:=Z9 a rs=true ∧ Sem G (.exit .normal) K ⟨s.t,yU s.h⟩
theorem jy.of {G:Ctx} {a:Array Oper} {rs:List Rec} {K:List Fr} {s:St} (T:zE G.P G.E) (k:Nat) (hm:Z9 a rs=true) (h:vm G k (.exit .normal) K ⟨s.t,yU s.h⟩):jy G a rs K s:=⟨hm,yl T _ _ _ _ h⟩
def dm (G:Ctx) (E:Env) (C:FuncId → List AV → List zf → Option AV) (a:Array Oper) (b m:Nat) (K:List Fr):Nat → Dm → Nat → List Rec → St → Prop
 | 0,_,_,_,_=>False
 | k + 1,.ops l,i,rs,s=>match l with
  | []=>jy G a rs K s
  | o :: l=>dm G E C a b m K k (.w o l (zC a s.t o)) i rs s
 | k + 1,.w o l w,i,rs,s=>match w with
  | some false=>dm G E C a b m K k (.p o l .und [] s.h[b + i]?) i rs s
  | some true=>dm G E C a b m K k (.g o l (vN o)) i rs s
  | none=>False
 | k + 1,.g o l g,i,rs,s=>match g with
  | true=>dm G E C a b m K k (.c o l (q9 s.t o)) i rs s
  | false=>dm G E C a b m K k (.v o l (kE E o.op o.type s.t s.h (b + i))) i rs s
 | k + 1,.c o l c,i,rs,s=>match c with
  | some (f,args)=>dm G E C a b m K k (.r o l (qE s.h args) (C f args (mask (qE s.h args) s.h))) i rs s
  | none=>False
 | k + 1,.r o l R r,i,rs,s=>match r with
  | some r=>r.sc (fun i=>R.contains i && born s.h i)=true ∧ dm G E C a b m K k (.p o l r [] s.h[b + i]?) i rs s
  | none=>False
 | k + 1,.v o l v,i,rs,s=>match v with
  | some p=>match vi E.cls o.op (b + i) p with
   | (v,U)=>U.all (fun p=>decide (p.1 < m))=true ∧ dm G E C a b m K k (.p o l v U s.h[b + i]?) i rs s
  | none=>False
 | k + 1,.p o l v U x,i,rs,s=>match x with
  | some .zy=>dm G E C a b m K k (.ops l) (i + 1) (rs ++ [⟨v,U,(b + i) :: vt s o⟩]) ⟨kN s.t o.dst v,app s.h U⟩
  | _=>False
def zkK (G:Ctx) (E:Env) (C:FuncId → List AV → List zf → Option AV) (a:Array Oper) (b m:Nat) (K:List Fr) (l:List Oper) (i:Nat) (rs:List Rec) (s:St):Prop:=
 ∀ suf,a.toList.drop i=l ++ suf → i ≤ a.size → ∃ rs' s',runT E C a b m l.length i s=some (rs',s') ∧ jy G a (rs ++ rs') K s'
def zmD (G:Ctx) (E:Env) (C:FuncId → List AV → List zf → Option AV) (a:Array Oper) (b m:Nat) (K:List Fr):Dm → Nat → List Rec → St → Prop
 | .ops l,i,rs,s=>zkK G E C a b m K l i rs s
 | .w o l w,i,rs,s=>zC a s.t o=w → zkK G E C a b m K (o :: l) i rs s
 | .g o l g,i,rs,s=>zC a s.t o=some true → vN o=g → zkK G E C a b m K (o :: l) i rs s
 | .c o l c,i,rs,s=>zC a s.t o=some true → vN o=true → q9 s.t o=c → zkK G E C a b m K (o :: l) i rs s
 | .r o l R r,i,rs,s=>(∀ r1,r=some r1 → r1.sc (fun i=>R.contains i && born s.h i)=true → act E C a o s (b + i)=some (r1,[])) → zkK G E C a b m K (o :: l) i rs s
 | .v o l v,i,rs,s=>zC a s.t o=some true → vN o=false → kE E o.op o.type s.t s.h (b + i)=v → zkK G E C a b m K (o :: l) i rs s
 | .p o l v U x,i,rs,s=>s.h[b + i]?=x → act E C a o s (b + i)=some (v,U) → U.all (fun p=>decide (p.1 < m))=true → zkK G E C a b m K (o :: l) i rs s
theorem zjt {G:Ctx} {E:Env} {C:FuncId → List AV → List zf → Option AV} {a:Array Oper} {b m:Nat} {K:List Fr}:∀ (k:Nat) (d:Dm) (i:Nat) (rs:List Rec) (s:St),dm G E C a b m K k d i rs s → zmD G E C a b m K d i rs s:=by
 intro k
 induction k with
 | zero=>intro d i rs s h;exact h.elim
 | succ k ih =>
  intro d i rs s h
  cases d with
  | ops l =>
   cases l with
   | nil=>exact fun _ _ _=>⟨[],s,rfl,by rw [List.append_nil];exact h⟩
   | cons o l=>exact ih _ _ _ _ h rfl
  | w o l w =>
   intro hw
   simp only [dm] at h
   split at h
   ·exact ih _ _ _ _ h rfl (by unfold act;rw [hw]) rfl
   ·exact ih _ _ _ _ h hw rfl
   ·exact h.elim
  | g o l g =>
   intro hw hg
   simp only [dm] at h
   split at h
   ·exact ih _ _ _ _ h hw hg rfl
   ·exact ih _ _ _ _ h hw hg rfl
  | c o l c =>
   intro hw hg hc
   simp only [dm] at h
   split at h
   ·rename_i f args
    refine ih _ _ _ _ h fun r1 hr hs=>?_
    unfold act
    rw [hw]
    simp only [hg,if_true,hc]
    rw [hr]
    simp only [hs,if_true]
   ·exact h.elim
  | r o l R r =>
   intro ha
   simp only [dm] at h
   split at h
   ·rename_i r
    exact ih _ _ _ _ h.2 rfl (ha r rfl h.1) rfl
   ·exact h.elim
  | v o l v =>
   intro hw hg hv
   simp only [dm] at h
   split at h
   ·rename_i p
    refine ih _ _ _ _ h.2 rfl ?_ h.1
    unfold act
    rw [hw]
    simp only [hg,Bool.false_eq_true,if_false]
    unfold ZM
    rw [hv]
    rfl
   ·exact h.elim
  | p o l v U x =>
   intro hx ha hU suf hd hi
   simp only [dm] at h
   split at h
   ·have hoi:a[i]?=some o:=by
     rw [← Array.getElem?_toList]
     have:=congrArg (fun l=>l[0]?) hd
     simpa [List.getElem?_drop] using this
    have hlt:i < a.size:=(Array.getElem?_eq_some_iff.1 hoi).1
    obtain ⟨rs',s',h1,h2⟩:=ih _ _ _ _ h suf (by
     have:=congrArg (List.drop 1) hd
     simpa [List.drop_drop] using this) hlt
    refine ⟨⟨v,U,(b + i) :: vt s o⟩ :: rs',s',?_,?_⟩
    ·simp only [List.length_cons,runT]
     rw [hoi]
     simp only [ha,hx,hU,if_true,h1]
    ·simpa using h2
   ·exact h.elim
theorem Dr.ofE {G:Ctx} {E:Env} {a:Array Oper} {K:List Fr} {s:St} (T:zE G.P E) (hsl:qV a=true) (l:List Entry) (ht:Told G.P l)
  (h:dm G E (orc l) a s.h.length (s.h.length + a.size) K (10 * a.size + 10) (.ops a.toList) 0 [] ⟨s.t,s.h ++ List.replicate a.size .zy⟩):Dr G a K s:=fun id=>by
 obtain ⟨rs,s1,h1,hm,h2⟩:=zjt _ _ _ _ _ h [] (by rw [List.drop_zero,List.append_nil]) (Nat.zero_le _)
 refine Run.drawn T (zjS ht) hsl (s':=⟨s1.t,yU s1.h⟩) ?_ h2
 unfold Ev.drawn
 simp only [List.length_append,List.length_replicate]
 rw [Array.length_toList] at h1
 rw [h1]
 simp only [List.nil_append] at hm
 simp only [hm,if_true]
theorem Dr.zmt {G:Ctx} {E:Env} {a:Array Oper} {K:List Fr} {s:St} (T:zE G.P E) (n:Nat) (hsl:qV a=true) (htl:QX a n=true) (l:List Entry) (ht:Told G.P l)
  (h:dm G E (orc l) a s.h.length (s.h.length + a.size) (.lp (xb G a (a.toList.drop n) K) :: K) (10 * a.size + 10) (.ops (a.toList.take n)) 0 [] ⟨s.t,s.h ++ List.replicate a.size .zy⟩):Dr G a K s:=fun id=>by
 obtain ⟨hn,_⟩:=Kt htl
 obtain ⟨rs,s1,h1,hm,h2⟩:=zjt _ _ _ _ _ h (a.toList.drop n) (by rw [List.drop_zero,List.take_append_drop]) (Nat.zero_le _)
 have hln:(a.toList.take n).length=n:=by simp;omega
 refine Run.W9 T (zjS ht) hsl htl (s':=⟨s1.t,yU s1.h⟩) ?_ ?_
 ·unfold Ev.yQ
  simp only [List.length_append,List.length_replicate]
  rw [hln] at h1
  rw [h1]
  simp only [List.nil_append] at hm
  simp only [hm,if_true]
 ·have:=h2 (a.toList.take n) (by rw [List.take_append_drop])
  rw [hln] at this
  simpa using this
theorem Dr.tail {G:Ctx} {a:Array Oper} {K:List Fr} {s:St} (T:zE G.P G.E) (n:Nat) (hsl:qV a=true) (htl:QX a n=true) (l:List Entry) (ht:Told G.P l)
  (h:dm G G.E (orc l) a s.h.length (s.h.length + a.size) (.lp (xb G a (a.toList.drop n) K) :: K) (10 * a.size + 10) (.ops (a.toList.take n)) 0 [] ⟨s.t,s.h ++ List.replicate a.size .zy⟩):Dr G a K s:=Dr.zmt T n hsl htl l ht h
theorem jy.tail {G:Ctx} {a:Array Oper} {rs:List Rec} {l:List Oper} {K:List Fr} {s:St} (T:zE G.P G.E) (k:Nat) (hm:Z9 a rs=true) (h:vm G k (.ops a l) K ⟨s.t,yU s.h⟩):jy G a rs (.lp (xb G a l K) :: K) s:=⟨hm,yl T k (.ops a l) K _ h⟩
theorem Lp.j5 {G:Ctx} {c:Code} {K:List Fr} {s:St} (id k:Nat) (h:Lp G c K (Ev.j5 id k s)):Lp G c K s:=Run.j5 id k h
theorem zE.cls {P:Program} {E:Env} (T:zE P E):zE P { E with cls:=true }:=⟨T.und,T.size,T.bytes,T.zero,T.zval,T.cmp,T.mixed⟩
theorem Dr.of {G:Ctx} {a:Array Oper} {K:List Fr} {s:St} (T:zE G.P G.E) (hsl:qV a=true) (l:List Entry) (ht:Told G.P l)
  (h:dm G G.E (orc l) a s.h.length (s.h.length + a.size) K (10 * a.size + 10) (.ops a.toList) 0 [] ⟨s.t,s.h ++ List.replicate a.size .zy⟩):Dr G a K s:=Dr.ofE T hsl l ht h
theorem Dr.ofC {G:Ctx} {a:Array Oper} {K:List Fr} {s:St} (T:zE G.P G.E) (hsl:qV a=true) (l:List Entry) (ht:Told G.P l)
  (h:dm G { G.E with cls:=true } (orc l) a s.h.length (s.h.length + a.size) K (10 * a.size + 10) (.ops a.toList) 0 [] ⟨s.t,s.h ++ List.replicate a.size .zy⟩):Dr G a K s:=Dr.ofE T.cls hsl l ht h
section
variable {G:Ctx} {E:Env} {C:FuncId → List AV → List zf → Option AV} {a:Array Oper} {b m k i:Nat} {K:List Fr} {rs:List Rec} {s:St}
theorem zlo:dm G E C a b m K (k + 1) (.ops []) i rs s=jy G a rs K s:=propext Iff.rfl
theorem zlh {o:Oper} {l:List Oper}:dm G E C a b m K (k + 1) (.ops (o :: l)) i rs s=dm G E C a b m K k (.w o l (zC a s.t o)) i rs s:=propext Iff.rfl
theorem zcm {o:Oper} {l:List Oper}:dm G E C a b m K (k + 1) (.w o l (some false)) i rs s=dm G E C a b m K k (.p o l .und [] s.h[b + i]?) i rs s:=propext Iff.rfl
theorem zfZ {o:Oper} {l:List Oper}:dm G E C a b m K (k + 1) (.w o l (some true)) i rs s=dm G E C a b m K k (.g o l (vN o)) i rs s:=propext Iff.rfl
theorem zha {o:Oper} {l:List Oper}:dm G E C a b m K (k + 1) (.g o l true) i rs s=dm G E C a b m K k (.c o l (q9 s.t o)) i rs s:=propext Iff.rfl
theorem zdu {o:Oper} {l:List Oper}:dm G E C a b m K (k + 1) (.g o l false) i rs s=dm G E C a b m K k (.v o l (kE E o.op o.type s.t s.h (b + i))) i rs s:=propext Iff.rfl
theorem znl {o:Oper} {l:List Oper} {f:FuncId} {args:List AV}:dm G E C a b m K (k + 1) (.c o l (some (f,args))) i rs s=dm G E C a b m K k (.r o l (qE s.h args) (C f args (mask (qE s.h args) s.h))) i rs s:=propext Iff.rfl
theorem zm0 {o:Oper} {l:List Oper} {R:List Nat} {r:AV}:dm G E C a b m K (k + 1) (.r o l R (some r)) i rs s=(r.sc (fun i=>R.contains i && born s.h i)=true ∧ dm G E C a b m K k (.p o l r [] s.h[b + i]?) i rs s):=propext Iff.rfl
def dmP (G:Ctx) (E:Env) (C:FuncId → List AV → List zf → Option AV) (a:Array Oper) (b m:Nat) (K:List Fr) (k:Nat) (o:Oper) (l:List Oper) (i:Nat) (rs:List Rec) (s:St) (p:AV × List (Nat × zf)):Prop:=p.2.all (fun p=>decide (p.1 < m))=true ∧ dm G E C a b m K k (.p o l p.1 p.2 s.h[b + i]?) i rs s
theorem znm {o:Oper} {l:List Oper} {p:AV × List (Nat × zf)}:dm G E C a b m K (k + 1) (.v o l (some p)) i rs s=dmP G E C a b m K k o l i rs s (vi E.cls o.op (b + i) p):=propext Iff.rfl
theorem zlY {o:Oper} {l:List Oper} {v:AV} {U:List (Nat × zf)}:dmP G E C a b m K k o l i rs s (v,U)=(U.all (fun p=>decide (p.1 < m))=true ∧ dm G E C a b m K k (.p o l v U s.h[b + i]?) i rs s):=propext Iff.rfl
theorem zna {o:Oper} {l:List Oper} {v:AV} {U:List (Nat × zf)}:dm G E C a b m K (k + 1) (.p o l v U (some .zy)) i rs s=dm G E C a b m K k (.ops l) (i + 1) (rs ++ [⟨v,U,(b + i) :: vt s o⟩]) ⟨kN s.t o.dst v,app s.h U⟩:=propext Iff.rfl
theorem zk0 {o:Oper} {l:List Oper} {p:Prop} [Decidable p] {x:Option (AV × List (Nat × zf))}:dm G E C a b m K (k + 1) (.v o l (if p then x else none)) i rs s=(p ∧ dm G E C a b m K (k + 1) (.v o l x) i rs s):=by
 by_cases h:p
 ·rw [if_pos h];simp [h]
 ·rw [if_neg h];simp [h,dm]
theorem zhK {o:Oper} {l:List Oper} {p:Prop} [Decidable p] {x:Option (AV × List (Nat × zf))}:dm G E C a b m K (k + 1) (.v o l (if p then none else x)) i rs s=(¬ p ∧ dm G E C a b m K (k + 1) (.v o l x) i rs s):=by
 by_cases h:p
 ·rw [if_pos h];simp [h,dm]
 ·rw [if_neg h];simp [h]
end
theorem qn {a:Array Oper} {rs:List Rec} (h:rs.all (fun r=>r.U.isEmpty)=true):Z9 a rs=true:=by unfold Z9;rw [h];rfl
attribute [go_sem] zlo zlh zcm zfZ zha zdu znl zm0 znm zlY vi zna zk0 zhK orc zix zcu List.nil_append Bool.or_true Bool.true_or Bool.or_false Bool.false_or List.size_toArray qE reach yZ yZ.all KX mask wV yU Wc List.isEmpty_nil List.isEmpty_cons
end Go.Ev
namespace Go.Ev
open Go.RowKit
variable [qo]
def zld (f:FuncId) (l:List AV):AV:=match qt l with
 | some cs=>.c (.fn f cs)
 | none=>.fn f l
theorem zjk {w:World} {N:Nat → Prop} {ρ:Nat → Pl} {f:FuncId} {l:List AV} {x:Value} (h:zo w N ρ (.fn f l) x):zo w N ρ (zld f l) x:=by
 unfold zld
 split
 ·rename_i cs hcs
  have hc:kS (.fn f l)=some (.fn f cs):=by simp only [kS];unfold qt at hcs;rw [hcs];rfl
  exact .c (vp _ _ _ hc h)
 ·exact h
theorem zk1 {q:Nat → Bool} {f:FuncId} {l:List AV} (h:AV.sc.scAll q l=true):(zld f l).sc q=true:=by
 unfold zld;split
 ·rfl
 ·exact h
def kP (id:Nat) (us:List CV):AV → AV
 | .ptr i off=>if i=id then (if off ≤ us.length then .rd (us.drop off) else .dead) else .ptr i off
 | .agg vs=>.agg (all id us vs)
 | .tup vs=>.tup (all id us vs)
 | .ifc t v=>.ifc t (kP id us v)
 | .fn f vs=>zld f (all id us vs)
 | v=>v
where
 all (id:Nat) (us:List CV):List AV → List AV
  | []=>[]
  | v :: vs=>kP id us v :: all id us vs
def zcr (id:Nat) (us:List CV):zf → zf
 | .box cs=>.box (kP.all id us cs)
 | .mp es c=>.mp (JD (kP id us) es) c
 | .vec sz e ys=>.vec sz e (Jo (kP id us) ys)
 | k=>k
def ZT (id:Nat) (s:St):St:=match s.h[id]? with
 | some (.box cs)=>match qt cs with
  | some us=>⟨kP.all id us s.t,(s.h.map (zcr id us)).set id .gone⟩
  | none=>s
 | _=>freeze id s
theorem qG (id:Nat) (us:List CV):∀ l:List AV,(kP.all id us l).length=l.length
 | []=>rfl
 | v :: l=>by simp [kP.all,qG id us l]
theorem wD (id:Nat) (us:List CV):∀ (l:List AV) (i:Nat),(kP.all id us l)[i]?=(l[i]?).map (kP id us)
 | [],i=>by simp [kP.all]
 | v :: l,0=>by simp [kP.all]
 | v :: l,i + 1=>by simp [kP.all,wD id us l i]
theorem zbz {id:Nat} {us:List CV} {l:List AV} {x:AV} (h:x ∈ kP.all id us l):∃ y,y ∈ l ∧ x=kP id us y:=by
 obtain ⟨i,hi⟩:=List.mem_iff_getElem?.1 h
 rw [wD] at hi
 obtain ⟨y,hy,rfl⟩:=Option.map_eq_some_iff.1 hi
 exact ⟨y,List.mem_of_getElem? hy,rfl⟩
theorem Z7 (id:Nat) (us:List CV) (q:Nat → Bool):∀ v:AV,v.sc q=true → (kP id us v).sc q=true
 | .c _,_ | .rd _,_ | .und,_ | .dead,_=>rfl
 | .sl _ _ _,h | .er _ _ _,h | .es _ _ _ _,h | .mp _,h=>h
 | .ifc _ v,h=>Z7 id us q v h
 | .ptr i off,h=>by
  simp only [kP];split
  ·split <;> rfl
  ·exact h
 | .agg vs,h | .tup vs,h=>all vs h
 | .fn _ vs,h=>zk1 (all vs h)
where
 all:∀ vs:List AV,AV.sc.scAll q vs=true → AV.sc.scAll q (kP.all id us vs)=true
  | [],_=>rfl
  | v :: vs,h=>by
   simp only [AV.sc.scAll,Bool.and_eq_true] at h
   simp only [kP.all,AV.sc.scAll,Bool.and_eq_true]
   exact ⟨Z7 id us q v h.1,all vs h.2⟩
theorem QF {N:Nat → Prop} {h:List zf} {ρ:Nat → Pl} {w:World} (H:zw N h ρ w) {id:Nat} {bs:List AV} {us:List CV} (hk:h[id]?=some (.box bs)) (hus:qt bs=some us) {v:AV} {x:Value} (hr:zo w N ρ v x) (q:Nat → Bool) (hq:v.sc q=true) :
  zo w (fun b=>N b ∨ (owns h ρ id ∧ (ρ id).b=b)) ρ (kP id us v) x:=by
 have hN:∀ b,N b → (fun b=>N b ∨ (owns h ρ id ∧ (ρ id).b=b)) b ∧ w.heap[b]?=w.heap[b]?:=fun b hb=>⟨.inl hb,rfl⟩
 have same:∀ {v:AV} {x:Value},zo w N ρ v x → v.sc (fun _=>true)=true → zo w (fun b=>N b ∨ (owns h ρ id ∧ (ρ id).b=b)) ρ v x:=fun h1 h2=>h1.mono (q:=fun _=>true) h2 hN fun _ _=>rfl
 induction hr with
 | c h=>exact .c (h.mono hN)
 | agg ws vs hl h ih =>
  refine .agg _ vs (by rw [qG];exact hl) fun i a b=>?_
  have a':i < ws.length:=by rw [qG] at a;exact a
  have e1:(kP.all id us ws)[i]=kP id us ws[i]:=by
   have:=wD id us ws i
   rw [List.getElem?_eq_getElem a,List.getElem?_eq_getElem a'] at this
   simpa using this
  rw [e1]
  exact ih i a' b (qp hq a')
 | tup ws vs hl h ih =>
  refine .tup _ vs (by rw [qG];exact hl) fun i a b=>?_
  have a':i < ws.length:=by rw [qG] at a;exact a
  have e1:(kP.all id us ws)[i]=kP id us ws[i]:=by
   have:=wD id us ws i
   rw [List.getElem?_eq_getElem a,List.getElem?_eq_getElem a'] at this
   simpa using this
  rw [e1]
  exact ih i a' b (qp hq a')
 | fn f ws vs hl h ih =>
  refine zjk (.fn f _ vs (by rw [qG];exact hl) fun i a b=>?_)
  have a':i < ws.length:=by rw [qG] at a;exact a
  have e1:(kP.all id us ws)[i]=kP id us ws[i]:=by
   have:=wD id us ws i
   rw [List.getElem?_eq_getElem a,List.getElem?_eq_getElem a'] at this
   simpa using this
  rw [e1]
  exact ih i a' b (qp hq a')
 | ptr i off =>
  simp only [kP];split
  ·rename_i e;subst e
   split
   ·rename_i hle
    obtain ⟨hph,hbase,vs,t,fr,hh,hf,hl,hc⟩:=H.own i _ hk
    have hown:owns h ρ i:=⟨⟨_,hk,by simp,by simp⟩,hph⟩
    rw [hbase,Nat.zero_add]
    refine .rd _ _ _ (.inr ⟨hown,rfl⟩) fun k a=>?_
    rw [List.length_drop] at a
    have hul:=ki hus
    have hlt:off + k < bs.length:=by omega
    obtain ⟨y,hy,hry⟩:=hc (off + k) hlt
    have hcl:=vA hus (off + k) hlt (by omega)
    refine ⟨y,by rw [z8 hh];exact hy,?_⟩
    rw [List.getElem_drop]
    exact (vp _ _ _ hcl hry).mono hN
   ·exact .dead _
  ·exact .ptr i off
 | mp i=>exact .mp i
 | sn i hp=>exact .sn i hp
 | sl i off len cap o hp ho h1 h2 hm=>exact .sl i off len cap o hp ho h1 h2 hm
 | er i j o=>exact .er i j o
 | es i j o n cap hph h1 hm=>exact .es i j o n cap hph h1 hm
 | ifc t v x h ih=>exact .ifc t _ x (ih hq)
 | rd cs b o hb hc=>exact same (.rd cs b o hb hc) rfl
 | und=>exact .und
 | dead x=>exact .dead x
theorem Sim.ZT {X:Ent} {s:St} {a:Act} {w:World} (id:Nat) (hs:Sim X s a w):Sim X (ZT id s) a w:=by
 unfold Ev.ZT
 split
 case h_2=>exact hs.freeze id
 rename_i bs hk
 split
 case h_2=>exact hs
 rename_i us hus
 obtain ⟨N,ρ,S⟩:=hs
 have H:=S.heap
 have hid:id < s.h.length:=(List.getElem?_eq_some_iff.1 hk).1
 have hN:∀ b,N b → (fun b=>N b ∨ (owns s.h ρ id ∧ (ρ id).b=b)) b ∧ w.heap[b]?=w.heap[b]?:=fun b hb=>⟨.inl hb,rfl⟩
 have hget:∀ i k',((s.h.map (zcr id us)).set id .gone)[i]?=some k' → (i=id ∧ k' = .gone) ∨ (i ≠ id ∧ ∃ k0,s.h[i]?=some k0 ∧ k'=zcr id us k0):=fun i k' hk'=>by
  by_cases e:i=id
  ·subst e
   rw [List.getElem?_set_self (by simpa using hid)] at hk'
   cases hk';exact .inl ⟨rfl,rfl⟩
  ·rw [List.getElem?_set_ne (Ne.symm e),List.getElem?_map] at hk'
   obtain ⟨k0,h0,rfl⟩:=Option.map_eq_some_iff.1 hk'
   exact .inr ⟨e,k0,h0,rfl⟩
 have hown:∀ i,owns ((s.h.map (zcr id us)).set id .gone) ρ i → i ≠ id ∧ owns s.h ρ i:=fun i ⟨⟨k',hk',h1,h2⟩,hp⟩=>by
  rcases hget i k' hk' with ⟨_,rfl⟩ | ⟨hne,k0,h0,rfl⟩
  ·simp at h1
  ·exact ⟨hne,⟨k0,h0,fun e=>h1 (by rw [e];rfl),fun e=>h2 (by rw [e];rfl)⟩,hp⟩
 have hborn:∀ i,born s.h i=true → born ((s.h.map (zcr id us)).set id .gone) i=true:=fun i hi=>by
  by_cases e:i=id
  ·subst e;simp [born,hid]
  ·unfold born at *
   rw [List.getElem?_set_ne (Ne.symm e),List.getElem?_map]
   cases h0:s.h[i]? with
   | none=>rw [h0] at hi;cases hi
   | some k=>rw [h0] at hi;cases k <;> first | rfl | cases hi
 refine ⟨fun b=>N b ∨ (owns s.h ρ id ∧ (ρ id).b=b),ρ,⟨?_,fun i j hi hj=>H.inj i j (hown i hi).2 (hown j hj).2,fun i hi hb=>?_,fun i k' hk'=>?_,fun i cs hk'=>?_,H.glob.mono hN⟩,⟨by simp [qG,S.slots.len],fun i v hv=>?_,H.glob.mono hN⟩,?_,?_,S.defers⟩
 ·rintro b (hb | ⟨ho,rfl⟩)
  ·exact H.lt b hb
  ·exact w9 H ho
 ·rcases hb with hb | ⟨ho,he⟩
  ·exact H.apart i (hown i hi).2 hb
  ·exact (hown i hi).1 (H.inj i id (hown i hi).2 ho he.symm)
 ·rcases hget i k' hk' with ⟨_,rfl⟩ | ⟨hne,k0,h0,rfl⟩
  ·trivial
  ·have:=H.own i k0 h0
   cases k0 with
   | box cs =>
    obtain ⟨h1,h2,vs,t,fr,hh,hf,hl,hc⟩:=this
    refine ⟨h1,h2,vs,t,fr,hh,hf,by simp [qG,hl],fun j hj=>?_⟩
    have hj':j < cs.length:=by rw [qG] at hj;exact hj
    obtain ⟨x,hx,hr⟩:=hc j hj'
    refine ⟨x,hx,?_⟩
    have e1:(kP.all id us cs)[j]=kP id us cs[j]:=by
     have:=wD id us cs j
     rw [List.getElem?_eq_getElem hj,List.getElem?_eq_getElem hj'] at this
     simpa using this
    rw [e1]
    exact QF H hk hus hr _ (qp (H.scope i _ h0) hj')
   | rows sz' e' ys =>
    exact this.mono (q:=born s.h) rfl (fun _ _ _=>rfl) hN (fun _ _=>rfl)
   | mp es c=>exact this.JD rfl hN fun v hv x hx=>QF H hk hus hx _ (ze.1 (H.scope i _ h0) v hv)
   | vec sz e ys=>exact this.Jo rfl fun v hv x hx=>QF H hk hus hx _ (ze.1 (H.scope i _ h0) v hv)
   | gone=>trivial
   | zy=>trivial
 ·rcases hget i _ hk' with ⟨_,rfl⟩ | ⟨hne,k0,h0,h1⟩
  ·rfl
  ·cases k0 with
   | box cs0 =>
    cases h1
    refine ze.2 fun x hx=>?_
    obtain ⟨y,hy,rfl⟩:=zbz hx
    exact Z7 id us _ y (AV.zQ hborn y (ze.1 (H.scope i _ h0) y hy))
   | mp es c =>
    cases h1
    exact yL fun y hy=>Z7 id us _ y (AV.zQ hborn y (ze.1 (H.scope i _ h0) y hy))
   | vec sz e ys =>
    cases h1
    exact ZC fun y hy=>Z7 id us _ y (AV.zQ hborn y (ze.1 (H.scope i _ h0) y hy))
   | _=>cases h1;rfl
 ·simp only at hv
  rw [wD] at hv
  obtain ⟨v0,h0,rfl⟩:=Option.map_eq_some_iff.1 hv
  obtain ⟨x,hx,hr⟩:=S.slots.rep i v0 h0
  exact ⟨x,hx,QF H hk hus hr _ (ze.1 S.sc _ (List.mem_of_getElem? h0))⟩
 ·refine ze.2 fun x hx=>?_
  obtain ⟨y,hy,rfl⟩:=zbz hx
  exact Z7 id us _ y (AV.zQ hborn y (ze.1 S.sc y hy))
 ·have K:=S.kept
  refine ⟨K.os,K.tape,K.output,K.size,fun i hi=>⟨hborn i (K.rho i hi).1,(K.rho i hi).2⟩,fun b hb=>⟨.inl (K.stay b hb).1,(K.stay b hb).2⟩,?_,K.rest,fun i hi=>K.new i (hown i hi).2⟩
  rintro b (hb | ⟨ho,rfl⟩)
  ·exact K.from_ b hb
  ·rcases K.new id ho with h1 | ⟨j,hj,h1⟩
   ·exact .inr (.inl h1)
   ·exact .inr (.inr ⟨j,hj,h1⟩)
def kO:Nat → Nat → St → St
 | _,0,s=>s
 | m,n + 1,s=>kO (m + 1) n (ZT m s)
theorem Sim.kO {X:Ent} {a:Act} {w:World}:∀ (n m:Nat) {s:St},Sim X s a w → Sim X (kO m n s) a w
 | 0,_,_,h=>h
 | n + 1,m,_,h=>Sim.kO n (m + 1) (h.ZT m)
def Vv (m:Nat) (v:AV) (h:List zf):AV × List zf:=match v.cl with
 | true=>(v,h)
 | false=>match kO m (h.length - m) ⟨[v],h⟩ with
  | ⟨[v'],k⟩=>(v',k)
  | _=>(v,h)
def zmQ (o:Option AV) (m:Nat) (h:List zf) (r:AV) (h':List zf):Prop:=∃ v,o=some v ∧ stays m (Vv m v h).1 (Vv m v h).2=true ∧ Le (Vv m v h).1 r ∧ (Vv m v h).2.take m=h'
def zmO (m:Nat) (p:AV × List zf) (r:AV) (h':List zf):Prop:=stays m p.1 p.2=true ∧ Le p.1 r ∧ p.2.take m=h'
theorem zgp {v:AV} {m:Nat} {h:List zf} {r:AV} {h':List zf}:zmQ (some v) m h r h'=zmO m (Vv m v h) r h':=propext ⟨fun ⟨_,h1,h2⟩=>by cases h1;exact h2,fun h=>⟨_,rfl,h⟩⟩
def zmV (E:Env) (rs:List ResultVar) (m:Nat) (r:AV) (h':List zf) (e:Exit) (s:St):Prop:=
 (e = .normal ∨ e = .ret) ∧ zmQ (zeb E rs s) m s.h r h'
theorem Good.zg {P:Program} {E:Env} (T:zE P E) (k:Nat) {f:FuncId} {fn:Func} {c:Code} {args:List AV} {h h':List zf} {r:AV} (hf:P.funcs[f]?=some fn) (hb:fn.body=some c) (hn:(fn.name == "runtime.NumGoroutine")=false)
  (hv:vm ⟨P,E,h.length,zmV E fn.results.toList h.length r h'⟩ k (.code c) [] ⟨args ++ List.replicate (fn.ntmps - args.length) .und,h⟩):Good P f args h r h':=by
 refine Good.zfA T (fun v k=>zmO h.length (Vv h.length v k) r h') hf hb hn ?_ ((zjK T k hv).mono fun e s1 hq=>?_)
 ·rintro X a w v k hX ⟨h1,h2,h3⟩ hs
  have h4:Sim X ⟨[(Vv h.length v k).1],(Vv h.length v k).2⟩ a w:=by
   unfold Vv
   split
   ·exact hs
   ·have:=hs.kO (k.length - h.length) h.length
    split
    ·rename_i v' k' he
     rw [he] at this;exact this
    ·exact hs
  have h5:=h4.gc 1 h.length (by rw [hX];exact Nat.le_refl _)
  rw [ziK h1,h3] at h5
  obtain ⟨N,ρ,S⟩:=h5
  refine ⟨N,ρ,S.heap,⟨S.slots.len,fun i u hu=>?_,S.slots.glob⟩,?_,S.kept,S.defers⟩
  ·match i,hu with
   | 0,hu =>
    obtain ⟨x,hx,hr⟩:=S.slots.rep 0 _ rfl
    simp at hu;subst hu
    exact ⟨x,hx,h2.rep _ _ _ _ hr⟩
   | i + 1,hu=>simp at hu
  ·have:=S.sc
   simp only [AV.sc.scAll,Bool.and_true] at this ⊢
   exact h2.sc _ this
 ·obtain ⟨he,v,hv,h1⟩:=hq
  exact ⟨he,v,hv,h1⟩
theorem zB.kO {P:Program} {n:Nat} {ops:Array Oper} {l:List Nat} {Q:Exit → St → Prop} (k m:Nat) {s:St} (h:zB P n ops l Q (kO m k s)):zB P n ops l Q s:=
 fun X a w hX hs=>h X a w hX (hs.kO k m)
theorem Cl.fzP {G:Ctx} {s:St} {K:List Fr} {f:FuncId} {args:List AV} {o:Oper} {a:Array Oper} {l:List Oper} (T:zE G.P G.E) (k:Nat) (m n:Nat) (h:vm G k (.ops a (o :: l)) K (kO m n s)):Cl G f args o a l K s:=fun _ _ pre hp =>
 zB.kO n m (yl T _ _ _ _ h pre hp)
attribute [go_sem] zld kP kP.all zcr ZT kO Vv zgp zmO zmV opn
end Go.Ev
namespace Go.Ev
open Go.RowKit
variable [qo]
def ren (f:Nat → Option Nat):AV → AV
 | .ptr id o=>match f id with | some j=>.ptr j o | none=>.dead
 | .mp id=>match f id with | some j=>.mp j | none=>.dead
 | .sl id o n=>match f id with | some j=>.sl j o n | none=>.dead
 | .er id o n=>match f id with | some j=>.er j o n | none=>.dead
 | .es id o i n=>match f id with | some j=>.es j o i n | none=>.dead
 | .ifc t v=>.ifc t (ren f v)
 | .agg vs=>.agg (all f vs)
 | .tup vs=>.tup (all f vs)
 | .fn g vs=>.fn g (all f vs)
 | v=>v
where
 all (f:Nat → Option Nat):List AV → List AV
  | []=>[]
  | v :: vs=>ren f v :: all f vs
def Xs (f:Nat → Option Nat):zf → zf
 | .box cs=>.box (ren.all f cs)
 | .mp es c=>.mp (JD (ren f) es) c
 | .vec sz e xs=>.vec sz e (Jo (ren f) xs)
 | k=>k
theorem zL (f:Nat → Option Nat):∀ l:List AV,(ren.all f l).length=l.length
 | []=>rfl
 | v :: l=>by simp [ren.all,zL f l]
theorem xL (f:Nat → Option Nat):∀ (l:List AV) (i:Nat),(ren.all f l)[i]?=(l[i]?).map (ren f)
 | [],i=>by simp [ren.all]
 | v :: l,0=>by simp [ren.all]
 | v :: l,i + 1=>by simp [ren.all,xL f l i]
theorem wy (f:Nat → Option Nat) (l:List AV) (i:Nat) (a:i < (ren.all f l).length) (a':i < l.length):(ren.all f l)[i]=ren f l[i]:=by
 have:=xL f l i
 rw [List.getElem?_eq_getElem a,List.getElem?_eq_getElem a'] at this
 simpa using this
theorem xy {f:Nat → Option Nat} {q r:Nat → Bool} (hf:∀ i j,q i=true → f i=some j → r j=true):∀ v:AV,v.sc q=true → (ren f v).sc r=true
 | .c _,_ | .rd _,_ | .und,_ | .dead,_=>rfl
 | .ifc _ v,h=>xy hf v h
 | .ptr id _,h | .mp id,h | .sl id _ _,h | .er id _ _,h | .es id _ _ _,h=>by
  simp only [ren]
  split
  ·rename_i hj;exact hf _ _ h hj
  ·rfl
 | .agg vs,h | .tup vs,h | .fn _ vs,h=>all vs h
where
 all:∀ vs:List AV,AV.sc.scAll q vs=true → AV.sc.scAll r (ren.all f vs)=true
  | [],_=>rfl
  | v :: vs,h=>by
   simp only [AV.sc.scAll,Bool.and_eq_true] at h
   simp only [ren.all,AV.sc.scAll,Bool.and_eq_true]
   exact ⟨xy hf v h.1,all vs h.2⟩
theorem wL {w:World} {N:Nat → Prop} {ρ ρ':Nat → Pl} {f:Nat → Option Nat} (hf:∀ i j,f i=some j → ρ' j = ρ i) {v:AV} {x:Value} (h:zo w N ρ v x):zo w N ρ' (ren f v) x:=by
 induction h with
 | c h=>exact .c h
 | agg us vs hl h ih =>
  refine .agg _ vs (by rw [zL];exact hl) fun i a b=>?_
  have a':i < us.length:=by rw [zL] at a;exact a
  rw [wy f us i a a'];exact ih i a' b
 | tup us vs hl h ih =>
  refine .tup _ vs (by rw [zL];exact hl) fun i a b=>?_
  have a':i < us.length:=by rw [zL] at a;exact a
  rw [wy f us i a a'];exact ih i a' b
 | fn g us vs hl h ih =>
  refine .fn g _ vs (by rw [zL];exact hl) fun i a b=>?_
  have a':i < us.length:=by rw [zL] at a;exact a
  rw [wy f us i a a'];exact ih i a' b
 | ptr id off =>
  simp only [ren];split
  ·rename_i j hj;rw [← hf _ _ hj];exact .ptr j off
  ·exact .dead _
 | mp id =>
  simp only [ren];split
  ·rename_i j hj;rw [← hf _ _ hj];exact .mp j
  ·exact .dead _
 | sn id hp =>
  simp only [ren];split
  ·rename_i j hj;exact .sn j (by rw [hf _ _ hj];exact hp)
  ·exact .dead _
 | sl id off len cap o hp ho h1 h2 hm =>
  simp only [ren];split
  ·rename_i j hj;rw [← hf _ _ hj] at hp ho h2 ⊢;exact .sl j off len cap o hp ho h1 h2 hm
  ·exact .dead _
 | er id j i =>
  simp only [ren];split
  ·rename_i k hk;rw [← hf _ _ hk];exact .er k j i
  ·exact .dead _
 | es id j i n cap hph h1 hm =>
  simp only [ren];split
  ·rename_i k hk;rw [← hf _ _ hk] at hph ⊢;exact .es k j i n cap hph h1 hm
  ·exact .dead _
 | ifc t v x h ih=>exact .ifc t _ x ih
 | rd cs b o hN h=>exact .rd cs b o hN h
 | und=>exact .und
 | dead y=>exact .dead y
def vb:List Nat → Nat → Option Nat
 | [],_=>none
 | j :: js,i=>if i=j then some 0 else (vb js i).map (· + 1)
theorem vB:∀ {js:List Nat} {i k:Nat},vb js i=some k → js[k]?=some i
 | [],_,_,h=>by cases h
 | j :: js,i,k,h=>by
  unfold vb at h
  split at h
  ·rename_i e;cases h;rw [e];rfl
  ·obtain ⟨m,hm,rfl⟩:=Option.map_eq_some_iff.1 h
   simpa using vB hm
def posOf (n:Nat) (js:List Nat) (i:Nat):Option Nat:=if i < n then some i else (vb js i).map (n + ·)
def ky (n:Nat) (js:List Nat) (i:Nat):Nat:=if i < n then i else (js[i - n]?).getD 0
def yS (h:List zf) (i:Nat):zf:=(h[i]?).getD .gone
def jc (n:Nat) (js:List Nat) (h:List zf):List zf:=(h.take n).map (Xs (posOf n js)) ++ js.map fun j=>Xs (posOf n js) (yS h j)
def pack (k n:Nat) (js:List Nat) (s:St):St:=⟨ren.all (posOf n js) (s.t.take k) ++ List.replicate (s.t.length - k) .dead,jc n js s.h⟩
theorem xC {n:Nat} {js:List Nat} {i j:Nat} (h:posOf n js i=some j):ky n js j=i ∧ j < n + js.length ∧ (¬ i < n → n ≤ j ∧ js[j - n]?=some i):=by
 unfold posOf at h
 split at h
 ·rename_i hi;cases h;exact ⟨by simp [ky,hi],by omega,fun h=>absurd hi h⟩
 ·rename_i hi
  obtain ⟨k,hk,rfl⟩:=Option.map_eq_some_iff.1 h
  have:=vB hk
  have hl:=(List.getElem?_eq_some_iff.1 this).1
  refine ⟨?_,by omega,fun _=>⟨by omega,by rw [Nat.add_sub_cancel_left];exact this⟩⟩
  unfold ky
  rw [if_neg (by omega),Nat.add_sub_cancel_left,this];rfl
theorem xK {n:Nat} {js:List Nat} {h:List zf} (hn:n ≤ h.length) {i:Nat} {k:zf} (hk:(jc n js h)[i]?=some k) :
  i < n + js.length ∧ k=Xs (posOf n js) (yS h (ky n js i)) ∧ (n ≤ i → js[i - n]?=some (ky n js i)):=by
 unfold jc at hk
 by_cases hi:i < n
 ·rw [List.getElem?_append_left (by simp;omega),List.getElem?_map,List.getElem?_take_of_lt hi] at hk
  obtain ⟨k0,h0,rfl⟩:=Option.map_eq_some_iff.1 hk
  refine ⟨by omega,?_,fun h=>by omega⟩
  simp [ky,hi,yS,h0]
 ·have hl:((h.take n).map (Xs (posOf n js))).length=n:=by simp;omega
  rw [List.getElem?_append_right (by omega),hl,List.getElem?_map] at hk
  obtain ⟨j,hj,rfl⟩:=Option.map_eq_some_iff.1 hk
  have:=(List.getElem?_eq_some_iff.1 hj).1
  have ho:ky n js i=j:=by unfold ky;rw [if_neg hi,hj];rfl
  exact ⟨by omega,by rw [ho],fun _=>by rw [ho];exact hj⟩
theorem zdh {n:Nat} {js:List Nat} {h:List zf} (hn:n ≤ h.length) {i:Nat} (hi:i < n + js.length):(jc n js h)[i]?=some (Xs (posOf n js) (yS h (ky n js i))):=by
 have hl:(jc n js h).length=n + js.length:=by simp [jc];omega
 have:=xK hn (List.getElem?_eq_getElem (show i < (jc n js h).length by omega))
 rw [List.getElem?_eq_getElem (show i < (jc n js h).length by omega),this.2.1]
theorem zfg (f:Nat → Option Nat) {k:zf} (h:k ≠ .zy):Xs f k ≠ .zy:=by cases k <;> simp_all [Xs]
theorem KC {n:Nat} {js:List Nat} {h:List zf} (hn:n ≤ h.length) {i j:Nat} (hi:born h i=true) (hp:posOf n js i=some j):born (jc n js h) j=true:=by
 obtain ⟨h1,h2,_⟩:=xC hp
 unfold born
 rw [zdh hn h2,h1]
 have:yS h i ≠ .zy:=by
  unfold born at hi
  unfold yS
  cases hb:h[i]? with
  | none=>rw [hb] at hi;cases hi
  | some k=>rw [hb] at hi;rintro rfl;cases hi
 have:=zfg (posOf n js) this
 split
 ·rename_i he;exact absurd (Option.some.inj he) this
 ·rfl
 ·rename_i he;cases he
def yV (n:Nat) (js:List Nat) (l:Nat):Bool:=decide js.Nodup && js.all fun j=>decide (n ≤ j) && decide (j < l)
theorem Sim.pack {X:Ent} {s:St} {a:Act} {w:World} (k n:Nat) (js:List Nat) (hX:X.h.length ≤ n) (hn:n ≤ s.h.length) (hjs:yV n js s.h.length=true) (hs:Sim X s a w):Sim X (Ev.pack k n js s) a w:=by
 obtain ⟨N,ρ,S⟩:=hs
 have H:=S.heap
 simp only [yV,Bool.and_eq_true,decide_eq_true_eq,List.all_eq_true] at hjs
 obtain ⟨hnd,hall⟩:=hjs
 let ρ':Nat → Pl:=fun i=>ρ (ky n js i)
 have hf:∀ i j,posOf n js i=some j → ρ' j = ρ i:=fun i j h=>by show ρ (ky n js j) = ρ i;rw [(xC h).1]
 have hborn:∀ i j,born s.h i=true → posOf n js i=some j → born (jc n js s.h) j=true:=fun i j=>KC hn
 have hold:∀ i,i < n + js.length → s.h[ky n js i]?=some (yS s.h (ky n js i)):=fun i hi=>by
  have:ky n js i < s.h.length:=by
   unfold ky
   split
   ·omega
   ·rw [List.getElem?_eq_getElem (by omega)]
    exact (hall _ (List.getElem_mem _)).2
  unfold yS
  rw [List.getElem?_eq_getElem this];rfl
 have hown:∀ i,owns (jc n js s.h) ρ' i → i < n + js.length ∧ owns s.h ρ (ky n js i):=fun i ⟨⟨k',hk,h1,h2⟩,hp⟩=>by
  obtain ⟨g1,g2,_⟩:=xK hn hk
  refine ⟨g1,⟨_,hold i g1,fun e=>h1 (by rw [g2,e];rfl),fun e=>h2 (by rw [g2,e];rfl)⟩,hp⟩
 have hinj:∀ i j,i < n + js.length → j < n + js.length → ky n js i=ky n js j → i=j:=fun i j hi hj he=>by
  unfold ky at he
  split at he
  ·split at he
   ·exact he
   ·rw [List.getElem?_eq_getElem (by omega)] at he
    have:=(hall _ (List.getElem_mem (show j - n < js.length by omega))).1
    simp at he;omega
  ·split at he
   ·rw [List.getElem?_eq_getElem (by omega)] at he
    have:=(hall _ (List.getElem_mem (show i - n < js.length by omega))).1
    simp at he;omega
   ·rw [List.getElem?_eq_getElem (by omega),List.getElem?_eq_getElem (by omega)] at he
    have hp:=List.pairwise_iff_getElem.1 hnd
    simp only [Option.getD_some] at he
    rcases Nat.lt_trichotomy (i - n) (j - n) with h | h | h
    ·exact absurd he (hp _ _ (by omega) (by omega) h)
    ·omega
    ·exact absurd he.symm (hp _ _ (by omega) (by omega) h)
 refine ⟨N,ρ',⟨H.lt,fun i j hi hj he=>?_,fun i hi=>H.apart _ (hown i hi).2,fun i k' hk=>?_,fun i k' hk=>?_,H.glob⟩,⟨?_,fun i v hv=>?_,H.glob⟩,?_,?_,S.defers⟩
 ·exact hinj i j (hown i hi).1 (hown j hj).1 (H.inj _ _ (hown i hi).2 (hown j hj).2 he)
 ·obtain ⟨g1,g2,_⟩:=xK hn hk
  have:=H.own _ _ (hold i g1)
  subst g2
  generalize yS s.h (ky n js i)=k0 at this
  cases k0 with
  | box cs =>
   obtain ⟨h1,h2,vs,t,fr,hh,hfr,hl,hc⟩:=this
   refine ⟨h1,h2,vs,t,fr,hh,hfr,by simp [zL,hl],fun j hj=>?_⟩
   have hj':j < cs.length:=by rw [zL] at hj;exact hj
   obtain ⟨x,hx,hr⟩:=hc j hj'
   exact ⟨x,hx,by rw [wy _ cs j hj hj'];exact wL hf hr⟩
  | mp es c=>exact this.JD rfl (fun b hb=>⟨hb,rfl⟩) fun v _ x hx=>wL hf hx
  | vec sz e xs=>exact this.Jo rfl fun v _ x hx=>wL hf hx
  | rows=>exact this
  | gone=>exact this
  | zy=>exact this
 ·obtain ⟨g1,g2,_⟩:=xK hn hk
  have:=H.scope _ _ (hold i g1)
  subst g2
  generalize yS s.h (ky n js i)=k0 at this
  cases k0 with
  | box cs=>exact xy.all hborn cs this
  | mp es c=>exact yL fun y hy=>xy hborn y (ze.1 this y hy)
  | vec sz e xs=>exact ZC fun y hy=>xy hborn y (ze.1 this y hy)
  | _=>rfl
 ·have:=S.slots.len
  simp only [Ev.pack,List.length_append,zL,List.length_take,List.length_replicate,← this];omega
 ·simp only [Ev.pack] at hv
  by_cases hlt:i < (ren.all (posOf n js) (s.t.take k)).length
  ·rw [List.getElem?_append_left hlt,xL] at hv
   obtain ⟨v0,h0,rfl⟩:=Option.map_eq_some_iff.1 hv
   rw [List.getElem?_take] at h0
   split at h0
   ·obtain ⟨x,hx,hr⟩:=S.slots.rep i v0 h0
    exact ⟨x,hx,wL hf hr⟩
   ·cases h0
  ·rw [List.getElem?_append_right (by omega)] at hv
   obtain ⟨h2,h3⟩:=List.getElem?_eq_some_iff.1 hv
   simp only [List.getElem_replicate] at h3
   subst h3
   simp only [List.length_replicate,zL,List.length_take] at h2 hlt
   have hsz:i < a.tmps.size:=by rw [← S.slots.len];omega
   exact ⟨a.tmps[i],Array.getElem?_eq_getElem hsz,.dead _⟩
 ·refine ze.2 fun x hx=>?_
  simp only [Ev.pack] at hx
  rcases List.mem_append.1 hx with h1 | h1
  ·obtain ⟨i,hi⟩:=List.mem_iff_getElem?.1 h1
   rw [xL] at hi
   obtain ⟨y,hy,rfl⟩:=Option.map_eq_some_iff.1 hi
   exact xy hborn y (ze.1 S.sc y (List.mem_of_mem_take (List.mem_of_getElem? hy)))
  ·rw [(List.mem_replicate.1 h1).2];rfl
 ·have K:=S.kept
  refine ⟨K.os,K.tape,K.output,K.size,fun i hi=>?_,K.stay,K.from_,K.rest,fun i hi=>K.new _ (hown i hi).2⟩
  have hlt:=JG hi
  have hp:posOf n js i=some i:=by unfold posOf;rw [if_pos (by omega)]
  refine ⟨KC hn (K.rho i hi).1 hp,?_⟩
  show ρ (ky n js i)=_
  rw [(xC hp).1];exact (K.rho i hi).2
def zk6 (n:Nat) (js:List Nat) (s u:St):Prop:=yV n js s.h.length=true ∧ n ≤ s.h.length ∧ Fit (ren.all (posOf n js) s.t) u.t ∧ jc n js s.h=u.h ∧ AV.sc.scAll (born u.h) u.t=true
theorem Sim.zmh {X:Ent} {s u:St} {a:Act} {w:World} (hs:Sim X s a w) (n:Nat) (js:List Nat) (hn:X.h.length ≤ n) (hf:zk6 n js s u):Sim X u a w:=by
 obtain ⟨h1,h2,h3,h4,h5⟩:=hf
 obtain ⟨N,ρ,S⟩:=hs.pack s.t.length n js hn h2 h1
 have e:(Ev.pack s.t.length n js s)=⟨ren.all (posOf n js) s.t,u.h⟩:=by
  simp only [Ev.pack,List.take_length,Nat.sub_self,List.replicate_zero,List.append_nil,h4]
 rw [e] at S
 refine ⟨N,ρ,S.heap,⟨by rw [← h3.len];exact S.slots.len,fun i v hv=>?_,S.slots.glob⟩,h5,S.kept,S.defers⟩
 obtain ⟨v0,hv0,hl⟩:=h3.get i v hv
 obtain ⟨x,hx,hr⟩:=S.slots.rep i v0 hv0
 refine ⟨x,hx,?_⟩
 rcases hl with rfl | hl
 ·exact .dead _
 ·exact hl.rep _ _ _ _ hr
theorem Lp.zmh {G:Ctx} {K:List Fr} {s:St} {c:Code} (T:zE G.P G.E) (k:Nat) (n:Nat) (hn:G.n ≤ n) {α:Type} (μ:α → Nat) (I:α → Prop) (S:α → St) (js0:List Nat) (a0:α) (h0:I a0) (hs:zk6 n js0 s (S a0))
  (round:∀ a,I a → vm G k (.code c) (.lp (fun s'=>∃ a' js,μ a' < μ a ∧ I a' ∧ zk6 n js s' (S a')) :: K) (S a)):Lp G c K s:=by
 refine Run.from (fun X a w hX hx=>hx.zmh n js0 (Nat.le_trans hX hn) hs) ?_
 refine Run.loop (fun m s1=>∃ a,m = μ a ∧ I a ∧ s1=S a) (μ a0) ⟨a0,rfl,h0,rfl⟩ ?_
 rintro m s1 ⟨a,rfl,ha,rfl⟩
 refine Run.turn (yl T _ _ _ _ (round a ha)) fun e s2 X act w hX hq2 hs2=>?_
 cases e with
 | normal =>
  obtain ⟨a',js,h1,h2,h3⟩:=hq2
  exact ⟨_,hs2.zmh n js (Nat.le_trans hX hn) h3,_,h1,a',rfl,h2,rfl⟩
 | _=>exact ⟨s2,hs2,hq2⟩
attribute [go_sem] zk6 ren ren.all Xs posOf vb jc yS
end Go.Ev
namespace Go.Ev
open Go.RowKit
variable [qo]
theorem ka.ren {w:World} {N:Nat → Prop} {ρ ρ':Nat → Pl} {f:Nat → Option Nat} (hf:∀ i j,f i=some j → ρ' j = ρ i) {p:Pl} {k:zf} (h:ka w N ρ p k):ka w N ρ' p (Xs f k):=by
 cases k with
 | box cs =>
  obtain ⟨h1,h2,vs,t,fr,hh,hfr,hl,hc⟩:=h
  refine ⟨h1,h2,vs,t,fr,hh,hfr,by simp [zL,hl],fun j hj=>?_⟩
  have hj':j < cs.length:=by rw [zL] at hj;exact hj
  obtain ⟨x,hx,hr⟩:=hc j hj'
  exact ⟨x,hx,by rw [wy _ cs j hj hj'];exact wL hf hr⟩
 | mp es c=>exact h.JD rfl (fun b hb=>⟨hb,rfl⟩) fun v _ x hx=>wL hf hx
 | vec sz e xs=>exact h.Jo rfl fun v _ x hx=>wL hf hx
 | rows=>exact h
 | gone=>exact h
 | zy=>exact h
theorem zg4 {f:Nat → Option Nat} {q r:Nat → Bool} (hf:∀ i j,q i=true → f i=some j → r j=true) {k:zf} (h:AV.sc.scAll q k.avs=true):AV.sc.scAll r (Xs f k).avs=true:=by
 cases k with
 | box cs=>exact xy.all hf cs h
 | mp es c=>exact yL fun y hy=>xy hf y (ze.1 h y hy)
 | vec sz e xs=>exact ZC fun y hy=>xy hf y (ze.1 h y hy)
 | _=>rfl
theorem wR:∀ {js:List Nat} {k i:Nat},js.Nodup → js[k]?=some i → vb js i=some k
 | [],_,_,_,h=>by cases h
 | j :: js,0,i,_,h=>by simp at h;subst h;simp [vb]
 | j :: js,k + 1,i,hn,h=>by
  simp only [List.getElem?_cons_succ] at h
  have hm:i ∈ js:=List.mem_of_getElem? h
  have hne:i ≠ j:=fun e=>(List.nodup_cons.1 hn).1 (e ▸ hm)
  unfold vb
  rw [if_neg hne,wR (List.nodup_cons.1 hn).2 h];rfl
theorem V6:∀ {js:List Nat} {i:Nat},vb js i=none → i ∉ js
 | [],_,_=>by simp
 | j :: js,i,h=>by
  unfold vb at h
  split at h
  ·cases h
  ·rename_i hne
   rw [Option.map_eq_none_iff] at h
   simp only [List.mem_cons,not_or]
   exact ⟨hne,V6 h⟩
def Kl:List Nat → List zf → List zf → List zf
 | j :: js,k :: ks,H=>Kl js ks (H.set j k)
 | _,_,H=>H
theorem vc:∀ (js:List Nat) (ks H:List zf),(Kl js ks H).length=H.length
 | [],_,_=>rfl
 | _ :: _,[],_=>rfl
 | j :: js,k :: ks,H=>by rw [Kl,vc];simp
theorem Z6:∀ (js:List Nat) (ks H:List zf) (i:Nat),js.Nodup → js.length ≤ ks.length → (∀ j,j ∈ js → j < H.length) → (Kl js ks H)[i]?=match vb js i with | some m=>ks[m]? | none=>H[i]?
 | [],_,_,_,_,_,_=>rfl
 | _ :: _,[],_,_,_,hl,_=>by simp at hl
 | j :: js,k :: ks,H,i,hn,hl,hlt=>by
  have hn':=List.nodup_cons.1 hn
  rw [Kl,Z6 js ks (H.set j k) i hn'.2 (by simpa using hl) (fun j' hj'=>by simpa using hlt j' (by simp [hj']))]
  have hcons:vb (j :: js) i=if i=j then some 0 else (vb js i).map (· + 1):=rfl
  rw [hcons]
  by_cases e:i=j
  ·subst e
   rw [if_pos rfl]
   have:vb js i=none:=by
    cases h:vb js i with
    | none=>rfl
    | some m=>exact absurd (List.mem_of_getElem? (vB h)) hn'.1
   rw [this]
   simp only [List.getElem?_cons_zero]
   rw [List.getElem?_set_self (hlt i (by simp))]
  ·rw [if_neg e]
   cases h:vb js i with
   | none=>simp only [Option.map_none];rw [List.getElem?_set_ne (Ne.symm e)]
   | some m=>simp
def q6 (L:Nat) (js:List Nat) (i:Nat):Option Nat:=if i < js.length then js[i]? else some (L + (i - js.length))
def yc (js:List Nat) (H h':List zf):List zf:=Kl js ((h'.take js.length).map (Xs (q6 H.length js))) H ++ (h'.drop js.length).map (Xs (q6 H.length js))
theorem Good.frame {P:Program} {f:FuncId} {args:List AV} {H:List zf} (js:List Nat) {r:AV} {h':List zf} (hjs:yV 0 js H.length=true) (hlen:js.length ≤ h'.length)
  (G:Good P f (ren.all (posOf 0 js) args) (jc 0 js H) r h'):Good P f args H (ren (q6 H.length js) r) (yc js H h'):=by
 intro w N ρ vs HO hsc hl hrep
 simp only [yV,Bool.and_eq_true,decide_eq_true_eq,List.all_eq_true] at hjs
 obtain ⟨hnd,hall⟩:=hjs
 have hpos:∀ i k,posOf 0 js i=some k → js[k]?=some i ∧ k < js.length:=fun i k h=>by
  obtain ⟨_,h2,h3⟩:=xC h
  exact ⟨by simpa using (h3 (by omega)).2,by omega⟩
 have hold:∀ k,k < js.length → js[k]?=some (ky 0 js k) ∧ ky 0 js k < H.length ∧ H[ky 0 js k]?=some (yS H (ky 0 js k)):=fun k hk=>by
  have e:js[k]?=some (ky 0 js k):=by unfold ky;rw [if_neg (by omega),Nat.sub_zero,List.getElem?_eq_getElem hk];rfl
  have hlt:=(hall _ (List.mem_of_getElem? e)).2
  exact ⟨e,hlt,by unfold yS;rw [List.getElem?_eq_getElem hlt];rfl⟩
 let ρ0:Nat → Pl:=fun k=>ρ (ky 0 js k)
 have hf0:∀ i k,posOf 0 js i=some k → ρ0 k = ρ i:=fun i k h=>by show ρ (ky 0 js k) = ρ i;rw [(xC h).1]
 have hb0:∀ i k,born H i=true → posOf 0 js i=some k → born (jc 0 js H) k=true:=fun i k=>KC (Nat.zero_le _)
 have hget0:∀ k b,(jc 0 js H)[k]?=some b → k < js.length ∧ b=Xs (posOf 0 js) (yS H (ky 0 js k)):=fun k b h=>by
  obtain ⟨g1,g2,_⟩:=xK (Nat.zero_le _) h
  exact ⟨by omega,g2⟩
 have hown0:∀ k,owns (jc 0 js H) ρ0 k → k < js.length ∧ owns H ρ (ky 0 js k):=fun k ⟨⟨k',hk,h1,h2⟩,hp⟩=>by
  obtain ⟨g1,g2⟩:=hget0 k k' hk
  exact ⟨g1,⟨_,(hold k g1).2.2,fun e=>h1 (by rw [g2,e];rfl),fun e=>h2 (by rw [g2,e];rfl)⟩,hp⟩
 have hinj0:∀ i j,i < js.length → j < js.length → ky 0 js i=ky 0 js j → i=j:=fun i j hi hj he=>by
  have a:=wR hnd (hold i hi).1
  have b:=wR hnd (hold j hj).1
  rw [he,b] at a;exact (Option.some.inj a).symm
 have HO0:zw N (jc 0 js H) ρ0 w:=⟨HO.lt,fun i j hi hj he=>hinj0 i j (hown0 i hi).1 (hown0 j hj).1 (HO.inj _ _ (hown0 i hi).2 (hown0 j hj).2 he),fun i hi=>HO.apart _ (hown0 i hi).2,fun k b hk=>by
   obtain ⟨g1,g2⟩:=hget0 k b hk
   subst g2
   exact (HO.own _ _ (hold k g1).2.2).ren hf0,fun k b hk=>by
   obtain ⟨g1,g2⟩:=hget0 k b hk
   subst g2
   exact zg4 hb0 (HO.scope _ _ (hold k g1).2.2),HO.glob⟩
 refine (G w N ρ0 vs HO0 (xy.all hb0 _ hsc) (by rw [zL];exact hl) (fun i h1 h2=>by
  have h1':i < args.length:=by rw [zL] at h1;exact h1
  rw [wy _ args i h1 h1'];exact wL hf0 (hrep i h1' h2))).mono ?_
 rintro v w' ⟨N',ρ',H',hr',K,hs'⟩
 have hg:∀ i,(yc js H h')[i]?=match vb js i with
   | some k=>(h'[k]?).map (Xs (q6 H.length js))
   | none=>if i < H.length then H[i]? else (h'[js.length + (i - H.length)]?).map (Xs (q6 H.length js)):=fun i=>by
  have hlt:∀ j,j ∈ js → j < H.length:=fun j hj=>(hall j hj).2
  unfold yc
  cases hi:vb js i with
  | some k =>
   have hk:=vB hi
   have hkl:=(List.getElem?_eq_some_iff.1 hk).1
   rw [List.getElem?_append_left (by rw [vc];exact hlt i (List.mem_of_getElem? hk)),Z6 js _ H i hnd (by simp;omega) hlt,hi]
   simp only [List.getElem?_map,List.getElem?_take_of_lt hkl]
  | none =>
   simp only []
   split
   ·rename_i h
    rw [List.getElem?_append_left (by rw [vc];exact h),Z6 js _ H i hnd (by simp;omega) hlt,hi]
   ·rename_i h
    rw [List.getElem?_append_right (by rw [vc];omega),vc,List.getElem?_map,List.getElem?_drop]
 let ρ2:Nat → Pl:=fun i=>match vb js i with
  | some k=>ρ' k
  | none=>if i < H.length then ρ i else ρ' (js.length + (i - H.length))
 have hf2:∀ k i,q6 H.length js k=some i → ρ2 i = ρ' k:=fun k i h=>by
  unfold q6 at h
  split at h
  ·have:=wR hnd h
   show (match vb js i with | some k=>ρ' k | none=>_)=_
   rw [this]
  ·cases h
   have:vb js (H.length + (k - js.length))=none:=by
    cases hi:vb js (H.length + (k - js.length)) with
    | none=>rfl
    | some m=>have:=(hall _ (List.mem_of_getElem? (vB hi))).2;omega
   show (match vb js (H.length + (k - js.length)) with | some k=>ρ' k | none=>_)=_
   rw [this]
   simp only []
   rw [if_neg (by omega)]
   congr 1;omega
 have hcase:∀ i b,(yc js H h')[i]?=some b → (∃ k b0,h'[k]?=some b0 ∧ b=Xs (q6 H.length js) b0 ∧ ρ2 i = ρ' k ∧ q6 H.length js k=some i) ∨ (i ∉ js ∧ H[i]?=some b ∧ ρ2 i = ρ i):=fun i b hb=>by
  rw [hg i] at hb
  cases hi:vb js i with
  | some k =>
   rw [hi] at hb
   obtain ⟨b0,h0,rfl⟩:=Option.map_eq_some_iff.1 hb
   have hk:=vB hi
   have hkl:=(List.getElem?_eq_some_iff.1 hk).1
   have hbk:q6 H.length js k=some i:=by unfold q6;rw [if_pos hkl,hk]
   exact .inl ⟨k,b0,h0,rfl,hf2 k i hbk,hbk⟩
  | none =>
   rw [hi] at hb
   simp only [] at hb
   split at hb
   ·rename_i h
    refine .inr ⟨V6 hi,hb,?_⟩
    show (match vb js i with | some k=>ρ' k | none=>_)=_
    rw [hi];simp only [];rw [if_pos h]
   ·rename_i h
    obtain ⟨b0,h0,rfl⟩:=Option.map_eq_some_iff.1 hb
    have hbk:q6 H.length js (js.length + (i - H.length))=some i:=by
     unfold q6;rw [if_neg (by omega)];congr 1;omega
    exact .inl ⟨_,b0,h0,rfl,hf2 _ i hbk,hbk⟩
 have hback:∀ k k' i,q6 H.length js k=some i → q6 H.length js k'=some i → k=k':=fun k k' i h1 h2=>by
  unfold q6 at h1 h2
  split at h1
  ·split at h2
   ·have a:=wR hnd h1
    have b:=wR hnd h2
    rw [a] at b;exact Option.some.inj b
   ·cases h2
    have:=(hall _ (List.mem_of_getElem? h1)).2;omega
  ·split at h2
   ·cases h1
    have:=(hall _ (List.mem_of_getElem? h2)).2;omega
   ·cases h1
    have:=Option.some.inj h2;omega
 have hown2:∀ i,owns (yc js H h') ρ2 i → (∃ k,owns h' ρ' k ∧ ρ2 i = ρ' k ∧ q6 H.length js k=some i) ∨ (i ∉ js ∧ owns H ρ i ∧ ρ2 i = ρ i):=fun i ⟨⟨b,hb,h1,h2⟩,hp⟩=>by
  rcases hcase i b hb with ⟨k,b0,g1,g2,g3,g4⟩ | ⟨g1,g2,g3⟩
  ·exact .inl ⟨k,⟨⟨b0,g1,fun e=>h1 (by rw [g2,e];rfl),fun e=>h2 (by rw [g2,e];rfl)⟩,by rw [← g3];exact hp⟩,g3,g4⟩
  ·exact .inr ⟨g1,⟨⟨b,g2,h1,h2⟩,by rw [← g3];exact hp⟩,g3⟩
 have hne:∀ i,i ∉ js → owns H ρ i → ∀ k,owns (jc 0 js H) ρ0 k → (ρ0 k).b ≠ (ρ i).b:=fun i hi ho k hk he=>by
  obtain ⟨g1,g2⟩:=hown0 k hk
  have:=HO.inj _ _ g2 ho he
  exact hi (this ▸ List.mem_of_getElem? (hold k g1).1)
 have hkeep:∀ i,i ∉ js → owns H ρ i → w'.heap[(ρ i).b]?=w.heap[(ρ i).b]?:=fun i hi ho=>K.rest _ (w9 HO ho) (hne i hi ho)
 have hmix:∀ i,i ∉ js → owns H ρ i → ∀ k,owns h' ρ' k → (ρ' k).b ≠ (ρ i).b:=fun i hi ho k hk he=>by
  rcases K.new k hk with h1 | ⟨j,hj,h1⟩
  ·have:=w9 HO ho;omega
  ·exact hne i hi ho j hj (h1.trans he)
 have hrho:∀ i,born H i=true → born (yc js H h') i=true ∧ ρ2 i = ρ i:=fun i hi=>by
  have hlt:=JG hi
  cases hx:vb js i with
  | some k =>
   have hk:=vB hx
   have hkl:=(List.getElem?_eq_some_iff.1 hk).1
   have hp:posOf 0 js i=some k:=by unfold posOf;rw [if_neg (by omega),hx];simp
   obtain ⟨k1,k2⟩:=K.rho k (hb0 i k hi hp)
   have hbk:q6 H.length js k=some i:=by unfold q6;rw [if_pos hkl,hk]
   refine ⟨?_,by rw [hf2 k i hbk,k2,hf0 i k hp]⟩
   unfold born at k1 ⊢
   rw [hg i,hx]
   simp only []
   cases hb:h'[k]? with
   | none=>rw [hb] at k1;cases k1
   | some b=>rw [hb] at k1;cases b <;> first | rfl | cases k1
  | none =>
   refine ⟨?_,?_⟩
   ·unfold born at hi ⊢
    rw [hg i,hx];simp only [];rw [if_pos hlt];exact hi
   ·show (match vb js i with | some k=>ρ' k | none=>_)=_
    rw [hx];simp only [];rw [if_pos hlt]
 have hb2:∀ k i,born h' k=true → q6 H.length js k=some i → born (yc js H h') i=true:=fun k i hk hbk=>by
  have:(yc js H h')[i]?=(h'[k]?).map (Xs (q6 H.length js)):=by
   rw [hg i]
   unfold q6 at hbk
   split at hbk
   ·rw [wR hnd hbk]
   ·rename_i hge
    cases hbk
    have:vb js (H.length + (k - js.length))=none:=by
     cases hi:vb js (H.length + (k - js.length)) with
     | none=>rfl
     | some m=>have:=(hall _ (List.mem_of_getElem? (vB hi))).2;omega
    rw [this];simp only []
    rw [if_neg (by omega),show js.length + (H.length + (k - js.length) - H.length)=k by omega]
  unfold born at hk ⊢
  rw [this]
  cases hb:h'[k]? with
  | none=>rw [hb] at hk;cases hk
  | some b=>rw [hb] at hk;cases b <;> first | rfl | cases hk
 refine ⟨N',ρ2,⟨H'.lt,fun i j hi hj he=>?_,fun i hi=>?_,fun i b hb=>?_,fun i b hb=>?_,H'.glob⟩,wL hf2 hr',?_,xy hb2 r hs'⟩
 ·rcases hown2 i hi with ⟨k,g1,g2,g3⟩ | ⟨g1,g2,g3⟩ <;> rcases hown2 j hj with ⟨k',e1,e2,e3⟩ | ⟨e1,e2,e3⟩
  ·rw [g2,e2] at he
   have:=H'.inj k k' g1 e1 he
   subst this
   rw [g3] at e3;exact Option.some.inj e3
  ·rw [g2,e3] at he;exact absurd he (hmix j e1 e2 k g1)
  ·rw [g3,e2] at he;exact absurd he.symm (hmix i g1 g2 k' e1)
  ·rw [g3,e3] at he;exact HO.inj i j g2 e2 he
 ·rcases hown2 i hi with ⟨k,g1,g2,g3⟩ | ⟨g1,g2,g3⟩
  ·rw [g2];exact H'.apart k g1
  ·rw [g3]
   intro hN
   rcases K.from_ _ hN with h1 | h1 | ⟨j,hj,h1⟩
   ·exact HO.apart i g2 h1
   ·have:=w9 HO g2;omega
   ·exact hne i g1 g2 j hj h1
 ·rcases hcase i b hb with ⟨k,b0,g1,g2,g3,g4⟩ | ⟨g1,g2,g3⟩
  ·subst g2;rw [g3];exact (H'.own k b0 g1).ren hf2
  ·rw [g3]
   exact (HO.own i b g2).mono (q:=born H) (HO.scope i b g2) (fun h1 h2 h3=>hkeep i g1 ⟨⟨b,g2,h1,h2⟩,h3⟩) (fun b hN=>K.stay b hN) fun j hj=>(hrho j hj).2
 ·rcases hcase i b hb with ⟨k,b0,g1,g2,g3,g4⟩ | ⟨g1,g2,g3⟩
  ·subst g2;exact zg4 hb2 (H'.scope k b0 g1)
  ·exact AV.zQ.all (fun j hj=>(hrho j hj).1) _ (HO.scope i b g2)
 ·refine ⟨K.os,K.tape,K.output,K.size,hrho,K.stay,fun b hb=>?_,fun b hb hn=>K.rest b hb fun k hk=>hn _ (hown0 k hk).2,fun i hi=>?_⟩
  ·rcases K.from_ b hb with h1 | h1 | ⟨j,hj,h1⟩
   ·exact .inl h1
   ·exact .inr (.inl h1)
   ·exact .inr (.inr ⟨_,(hown0 j hj).2,h1⟩)
  ·rcases hown2 i hi with ⟨k,g1,g2,g3⟩ | ⟨g1,g2,g3⟩
   ·rw [g2]
    rcases K.new k g1 with h1 | ⟨j,hj,h1⟩
    ·exact .inl h1
    ·exact .inr ⟨_,(hown0 j hj).2,h1⟩
   ·rw [g3];exact .inr ⟨i,g2,rfl⟩
end Go.Ev
namespace Go.Ev
open Go.RowKit
variable [qo]
theorem Cl.frame {G:Ctx} {s:St} {K:List Fr} {f:FuncId} {args args0:List AV} {o:Oper} {a:Array Oper} {l:List Oper} {r:AV} {h0 h':List zf} (T:zE G.P G.E) (k:Nat) (js:List Nat) (GG:Good G.P f args0 h0 r h')
  (hj:yV 0 js s.h.length=true) (he:ren.all (posOf 0 js) args=args0) (hh:jc 0 js s.h=h0) (hl:js.length ≤ h'.length)
  (h:vm G k (.ops a l) K ⟨kN s.t o.dst (ren (q6 s.h.length js) r),yc js s.h h'⟩):Cl G f args o a l K s:=by
 subst he hh
 exact Cl.of T k (Good.frame js hj hl GG) h
attribute [go_sem] q6 yc Kl
end Go.Ev
