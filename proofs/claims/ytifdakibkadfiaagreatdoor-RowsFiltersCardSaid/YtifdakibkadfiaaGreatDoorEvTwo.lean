/-  The evaluator, third part: reckoned runs, formulas. Over any program. -/
import Derived.Test.YtifdakibkadfiaaGreatDoorEvMid
import Derived.Laws.Externs
import Derived.Scope
set_option linter.all false
set_option maxRecDepth 100000
set_option maxHeartbeats 8000000
namespace Go.Ev
open Go.RowKit
variable [Globs]
theorem wpAny_head {P:Program} {E:Env} (T:TabOK P E) {C:FuncId → List AV → List ABlk → Option AV} (hC:Oracle P C) {ops:Array Oper} {rs:List Rec} {s0:St} {b:Nat} {Q:Exit → Act → World → Prop} {X:Ent}
  (hsl:slotsOK ops=true) (hmem:memOK ops rs=true) (n:Nat) (hn:n ≤ ops.size) (hlen:rs.length=n)
  (hanc:∀ i j,i < n → n ≤ j → j < ops.size → ((ancT ops ops.size).getD j 0).testBit i=true)
  (htext:∀ j,j < n → ∃ o r,rs[j]?=some r ∧ TextAt E C ops b s0.h.length (stD ops rs s0 (fun _=>true) j) j o r)
  (hQ:∀ (fuel:Nat) (listed:Array Bool) (a:Act) (w:World),listed.size=ops.size → cntD (fun i=>listed.getD i false) ops.size ≤ fuel → (∀ i,i < n → listed.getD i false=true) → (∀ i,n ≤ i → listed.getD i false=false) → Sim X (stD ops rs s0 (fun _=>true) n) a w → wpAny P .any ops Q fuel listed a w) :
  ∀ (fuel:Nat) (listed:Array Bool) (a:Act) (w:World),listed.size=ops.size → cntD (fun i=>listed.getD i false) ops.size ≤ fuel →
   (∀ j,listed.getD j false=true → ∀ p,p ∈ preds ops j → listed.getD p false=true) →
   (∀ i,n ≤ i → listed.getD i false=false) → Sim X (stD ops rs s0 (fun i=>listed.getD i false) n) a w → wpAny P .any ops Q fuel listed a w:=by
 simp only [slotsOK,Bool.and_eq_true] at hsl
 obtain ⟨hpr,hsl⟩:=hsl
 have hb:Bnd rs s0.h.length:=fun i id hi=>by
  unfold domOf at hi
  split at hi
  ·rename_i r hr
   obtain ⟨p,hp,rfl⟩:=List.mem_map.1 hi
   have hlt:i < n:=by rw [← hlen];exact (List.getElem?_eq_some_iff.1 hr).1
   obtain ⟨o,r',hr',ht⟩:=htext i hlt
   rw [hr] at hr';cases hr'
   exact ht.bnd p hp
  ·cases hi
 have slots:∀ i j,i < j → j < ops.size → ((ancT ops ops.size).getD j 0).testBit i=true ∨ slotFree ops i j=true:=fun i j hij hj=>by
  have:=allPairs_spec hsl hij hj
  simpa using this
 have mems:∀ i j,i < j → j < ops.size → memFree (recAt rs i) (recAt rs j)=true ∨ ((ancT ops ops.size).getD j 0).testBit i=true:=fun i j hij hj=>memOK_spec hmem hij hj
 have recAt_of:∀ {i:Nat} {r:Rec},rs[i]?=some r → recAt rs i=r:=fun h=>by simp [recAt,h]
 have allOf:∀ (listed:Array Bool),(∀ i,i < n → listed.getD i false=true) → stD ops rs s0 (fun i=>listed.getD i false) n=stD ops rs s0 (fun _=>true) n:=fun listed hall=>by
  have:∀ k,k ≤ n → stD ops rs s0 (fun i=>listed.getD i false) k=stD ops rs s0 (fun _=>true) k:=by
   intro k
   induction k with
   | zero=>intro _;rfl
   | succ k ih=>intro hn;simp only [stD];rw [ih (by omega)];simp only [hall k (by omega)]
  exact this _ (Nat.le_refl _)
 have readyAll:∀ (listed:Array Bool),listed.size=ops.size → Region.ready .any ops listed=[] → ∀ i,i < ops.size → listed.getD i false=true:=fun listed hsz hr i=>by
  induction i using Nat.strongRecOn with
  | _ i ih =>
   intro hi
   cases hd:listed.getD i false with
   | true=>rfl
   | false =>
    exfalso
    have hmem:i ∈ Region.ready .any ops listed:=by
     rw [mem_ready]
     have hi':i < listed.size:=by omega
     have ho:ops[i]?=some ops[i]:=Array.getElem?_eq_getElem hi
     refine ⟨?_,ops[i],ho,fun e he hbd=>?_⟩
     ·simp only [Array.getD_eq_getD_getElem?,Array.getElem?_eq_getElem hi',Option.getD_some] at hd ⊢;exact hd
     ·have hp:e.on ∈ preds ops i:=by
       unfold preds;rw [ho]
       exact List.mem_filterMap.2 ⟨e,by simpa using he,by rw [if_pos hbd]⟩
      have hlt:=predsOK_lt hpr i hi _ hp
      exact ih e.on hlt (by omega)
    rw [hr] at hmem;cases hmem
 intro fuel
 induction fuel with
 | zero =>
  intro listed a w hsz hcnt hdown hup hs
  have hall:=cntD_zero (Nat.le_zero.1 hcnt)
  exact hQ 0 listed a w hsz hcnt (fun i hi=>hall i (by omega)) hup (by rw [← allOf listed fun i hi=>hall i (by omega)];exact hs)
 | succ fuel ih =>
  intro listed a w hsz hcnt hdown hup hs
  by_cases hfull:∀ i,i < n → listed.getD i false=true
  ·exact hQ (fuel + 1) listed a w hsz hcnt hfull hup (by rw [← allOf listed hfull];exact hs)
  have hmiss:∃ i,i < n ∧ listed.getD i false=false:=by
   refine Classical.byContradiction fun hc=>hfull fun i hi=>?_
   cases hd:listed.getD i false with
   | true=>rfl
   | false=>exact absurd ⟨i,hi,hd⟩ hc
  obtain ⟨i0,hi0,hd0⟩:=hmiss
  refine ⟨fun hr=>?_,fun j hj=>?_⟩
  ·have:=readyAll listed hsz hr i0 (by omega)
   rw [hd0] at this;cases this
  obtain ⟨h0,o,ho,hpre⟩:=mem_ready.1 hj
  have hjs:j < ops.size:=(Array.getElem?_eq_some_iff.1 ho).1
  have hD:listed.getD j false=false:=by
   simp only [Array.getD_eq_getD_getElem?,Array.getElem?_eq_getElem (show j < listed.size by omega),Option.getD_some] at h0 ⊢;exact h0
  have hpreds:∀ p,p ∈ preds ops j → listed.getD p false=true:=fun p hp=>by
   unfold preds at hp;rw [ho] at hp
   obtain ⟨e,he,heq⟩:=List.mem_filterMap.1 hp
   split at heq
   ·rename_i hbd;cases heq;exact hpre e (by simpa using he) hbd
   ·cases heq
  have hjl:j < n:=by
   rcases Nat.lt_or_ge j n with h1 | h1
   ·exact h1
   ·exfalso
    have:=anc_done (D:=fun i=>listed.getD i false) hdown ops.size j i0 hjs (hanc i0 j hi0 h1 hjs) hpreds
    have h9:listed.getD i0 false=true:=this
    rw [hd0] at h9;cases h9
  obtain ⟨o',r,hr,ht⟩:=htext j hjl
  have:=ht.oper
  rw [ho] at this;cases this
  have agree:∀ i,i < n → (i < j → slotFree ops i j=false ∨ memFree (recAt rs i) (recAt rs j)=false → listed.getD i false=true) ∧ (j < i → slotFree ops j i=false ∨ memFree (recAt rs j) (recAt rs i)=false → listed.getD i false=false):=fun i hi=>by
   refine ⟨fun hij hc=>?_,fun hij hc=>?_⟩
   ·have hanc:((ancT ops ops.size).getD j 0).testBit i=true:=by
     rcases hc with hc | hc
     ·rcases slots i j hij hjs with h1 | h1
      ·exact h1
      ·rw [hc] at h1;cases h1
     ·rcases mems i j hij hjs with h1 | h1
      ·rw [hc] at h1;cases h1
      ·exact h1
    exact anc_done (D:=fun i=>listed.getD i false) hdown ops.size j i hjs hanc hpreds
   ·have hanc:((ancT ops ops.size).getD i 0).testBit j=true:=by
     rcases hc with hc | hc
     ·rcases slots j i hij (by omega) with h1 | h1
      ·exact h1
      ·rw [hc] at h1;cases h1
     ·rcases mems j i hij (by omega) with h1 | h1
      ·rw [hc] at h1;cases h1
      ·exact h1
    cases hdi:listed.getD i false with
    | false=>rfl
    | true =>
     have:=anc_done (D:=fun i=>listed.getD i false) hdown ops.size i j (by omega) hanc (fun p hp=>hdown i hdi p hp)
     have h9:listed.getD j false=true:=this
     rw [hD] at h9;cases h9
  have pre:∀ m,j ≤ m → stD ops rs s0 (fun i=>decide (i < j)) m=stD ops rs s0 (fun _=>true) j:=by
   have below:∀ n,n ≤ j → stD ops rs s0 (fun i=>decide (i < j)) n=stD ops rs s0 (fun _=>true) n:=by
    intro n
    induction n with
    | zero=>intro _;rfl
    | succ n ihn=>intro hn;simp only [stD];rw [ihn (by omega)];simp [show n < j by omega]
   intro m
   induction m with
   | zero =>
    intro hn
    have h9:=below 0 (Nat.zero_le _)
    have e0:j=0:=by omega
    rw [h9,e0]
   | succ m ihn =>
    intro hn
    by_cases e:j=m + 1
    ·rw [← e];exact below j (Nat.le_refl _)
    ·simp only [stD];simp [show ¬ m < j by omega];exact ihn (by omega)
  have hrj:=recAt_of hr
  have tslot:∀ d,d ∈ o.looksAt ops → (stD ops rs s0 (fun i=>listed.getD i false) n).t[d]?=(stD ops rs s0 (fun _=>true) j).t[d]?:=fun d hd=>by
   rw [← pre n (Nat.le_of_lt hjl)]
   refine stD_slot _ fun i hi hdst=>?_
   have hlook:(lookAt ops j).contains d=true:=by simp only [lookAt,ho];simpa using hd
   rcases Nat.lt_trichotomy i j with h1 | h1 | h1
   ·simp only [h1,decide_true]
    exact (agree i hi).1 h1 (.inl (by simp only [slotFree,hdst,hlook];simp))
   ·subst h1;simp only [hD];simp
   ·have:=(agree i hi).2 h1 (.inl (by simp only [slotFree,hdst,hlook];simp))
    simp only [this];simp;omega
  have tblk:∀ id,id ∈ (b + j) :: readsOf (stD ops rs s0 (fun _=>true) j) o → (stD ops rs s0 (fun i=>listed.getD i false) n).h[id]?=(stD ops rs s0 (fun _=>true) j).h[id]?:=fun id hid=>by
   rw [← pre n (Nat.le_of_lt hjl)]
   refine stD_blk hb rfl _ fun i hi hdom=>?_
   rw [← ht.reads] at hid
   have key:∀ (hij:i ≠ j),∃ q,rs[i]?=some q ∧ ∃ p,p ∈ q.U ∧ p.1=id:=fun hij=>by
    unfold domOf at hdom
    split at hdom
    ·rename_i q hq
     obtain ⟨p,hp,rfl⟩:=List.mem_map.1 hdom
     exact ⟨q,hq,p,hp,rfl⟩
    ·cases hdom
   rcases Nat.lt_trichotomy i j with h1 | h1 | h1
   ·simp only [h1,decide_true]
    obtain ⟨q,hq,p,hp,rfl⟩:=key (by omega)
    refine (agree i hi).1 h1 (.inr ?_)
    rw [recAt_of hq,hrj]
    simp only [memFree,Bool.and_eq_false_iff,List.all_eq_false]
    exact .inl ⟨p,hp,by simp [hid]⟩
   ·subst h1;simp only [hD];simp
   ·obtain ⟨q,hq,p,hp,rfl⟩:=key (by omega)
    have:=(agree i hi).2 h1 (.inr (by
     rw [recAt_of hq,hrj]
     simp only [memFree,Bool.and_eq_false_iff,List.all_eq_false]
     exact .inr ⟨p,hp,by simp [hid]⟩))
    simp only [this];simp;omega
  have hact:act E C ops o (stD ops rs s0 (fun i=>listed.getD i false) n) (b + j)=some (r.v,r.U):=by
   rw [← ht.acts]
   exact act_same E C ops o (b + j) (by rw [stD_len hb rfl,stD_len hb rfl]) tslot fun id hid=>tblk id (List.mem_cons_of_mem _ hid)
  have hfr:Fresh (stD ops rs s0 (fun i=>listed.getD i false) n).h (b + j):=.inr ((tblk (b + j) (by simp)).trans ht.fresh)
  refine wpOp_act T hC ho hfr hact hs fun a' w' hs'=>?_
  have hset:∀ i,i ≠ j → (listed.setIfInBounds j true).getD i false=listed.getD i false:=fun i hi=>getD_set_ne false (Ne.symm hi)
  have hsetj:(listed.setIfInBounds j true).getD j false=true:=by simp [show j < listed.size by omega]
  refine ih (listed.setIfInBounds j true) a' w' (by simpa using hsz) ?_ ?_ (fun i hi=>by rw [hset i (by omega)];exact hup i hi) ?_
  ·have:=(cntD_set (D:=fun i=>listed.getD i false) (D':=fun i=>(listed.setIfInBounds j true).getD i false) hD hsetj hset ops.size).2 hjs
   omega
  ·intro k hk p hp
   by_cases e:k=j
   ·subst e
    exact getD_set_true (hpreds p hp)
   ·rw [hset k e] at hk
    exact getD_set_true (hdown k hk p hp)
  ·rw [stD_insert (D:=fun i=>listed.getD i false) hb rfl hD hsetj hset n hjl]
   ·unfold putR;rw [ho,hr];exact hs'
   ·intro i h1 h2 hDi
    have hDi:listed.getD i false=true:=hDi
    have hno:=(agree i h2).2 h1
    refine ⟨fun x hx hxi=>?_,fun x hx hxi=>?_⟩
    ·have:=hno (.inl (by simp only [slotFree,hx,hxi];simp))
     rw [hDi] at this;cases this
    ·unfold domOf at hx hxi
     rw [hr] at hx
     split at hxi
     ·rename_i q hq
      obtain ⟨p,hp,rfl⟩:=List.mem_map.1 hx
      have:=hno (.inr (by
       rw [recAt_of hq,hrj]
       simp only [memFree,Bool.and_eq_false_iff,List.all_eq_false]
       exact .inl ⟨p,hp,by simp;intro _;simpa using hxi⟩))
      rw [hDi] at this;cases this
     ·cases hxi
def tailOK (ops:Array Oper) (n:Nat):Bool:=decide (n ≤ ops.size) && (let T:=ancT ops ops.size;(List.range ops.size).all fun j=>(List.range j).all fun i=>decide (j < n) || (T.getD j 0).testBit i)
theorem tailOK_spec {ops:Array Oper} {n:Nat} (h:tailOK ops n=true):n ≤ ops.size ∧ ∀ i j,i < j → n ≤ j → j < ops.size → ((ancT ops ops.size).getD j 0).testBit i=true:=by
 simp only [tailOK,Bool.and_eq_true,decide_eq_true_eq] at h
 refine ⟨h.1,fun i j hij hn hj=>?_⟩
 have:=List.all_eq_true.1 (List.all_eq_true.1 h.2 j (List.mem_range.2 hj)) i (List.mem_range.2 hij)
 simp only [Bool.or_eq_true,decide_eq_true_eq] at this
 exact this.resolve_left (by omega)
theorem wpAny_tail {P:Program} {ops:Array Oper} {n:Nat} {Q:Exit → Act → World → Prop} (hpr:predsOK ops ops.size=true) (hanc:∀ i j,i < j → n ≤ j → j < ops.size → ((ancT ops ops.size).getD j 0).testBit i=true) :
  ∀ (k m:Nat),m + k=ops.size → n ≤ m → ∀ (fuel:Nat) (listed:Array Bool) (a:Act) (w:World),listed.size=ops.size → k ≤ fuel → (∀ i,i < m → listed.getD i false=true) → (∀ i,m ≤ i → listed.getD i false=false) →
   wpOps P ops Q (List.range' m k) a w → wpAny P .any ops Q fuel listed a w
 | 0,m,hm,hn,fuel,listed,a,w,hsz,hf,hl,hu,hw=>by
  have hnone:Region.ready .any ops listed=[]:=by
   cases hr:Region.ready .any ops listed with
   | nil=>rfl
   | cons i l =>
    have hmm:i ∈ Region.ready .any ops listed:=by rw [hr];simp
    obtain ⟨h0,o,ho,_⟩:=mem_ready.1 hmm
    have hi:i < ops.size:=(Array.getElem?_eq_some_iff.1 ho).1
    have h1:=hl i (by omega)
    simp only [Array.getD_eq_getD_getElem?,Array.getElem?_eq_getElem (show i < listed.size by omega),Option.getD_some] at h0 h1
    rw [h0] at h1;cases h1
  cases fuel with
  | zero=>exact ⟨hnone,hw⟩
  | succ fuel=>exact ⟨fun _=>hw,fun i hi=>by rw [hnone] at hi;cases hi⟩
 | k + 1,m,hm,hn,fuel,listed,a,w,hsz,hf,hl,hu,hw=>by
  cases fuel with
  | zero=>omega
  | succ fuel =>
   have hms:m < ops.size:=by omega
   have hdown:∀ j,listed.getD j false=true → ∀ p,p ∈ preds ops j → listed.getD p false=true:=fun j hj p hp=>by
    rcases Nat.lt_or_ge j m with h1 | h1
    ·exact hl p (by have:=predsOK_lt hpr j (by omega) p hp;omega)
    ·rw [hu j h1] at hj;cases hj
   have rdy:m ∈ Region.ready .any ops listed:=by
    rw [mem_ready]
    have ho:ops[m]?=some ops[m]:=Array.getElem?_eq_getElem hms
    refine ⟨?_,ops[m],ho,fun e he hbd=>?_⟩
    ·have:=hu m (Nat.le_refl _)
     simp only [Array.getD_eq_getD_getElem?,Array.getElem?_eq_getElem (show m < listed.size by omega),Option.getD_some] at this ⊢;exact this
    ·have hp:e.on ∈ preds ops m:=by
      unfold preds;rw [ho]
      exact List.mem_filterMap.2 ⟨e,by simpa using he,by rw [if_pos hbd]⟩
     exact hl _ (predsOK_lt hpr m hms _ hp)
   refine ⟨fun hr=>(by rw [hr] at rdy;cases rdy),fun j hj=>?_⟩
   obtain ⟨h0,o,ho,hpre⟩:=mem_ready.1 hj
   have hjs:j < ops.size:=(Array.getElem?_eq_some_iff.1 ho).1
   have hjm:j=m:=by
    rcases Nat.lt_trichotomy j m with h1 | h1 | h1
    ·have:=hl j h1
     simp only [Array.getD_eq_getD_getElem?,Array.getElem?_eq_getElem (show j < listed.size by omega),Option.getD_some] at h0 this
     rw [h0] at this;cases this
    ·exact h1
    ·exfalso
     have hpreds:∀ p,p ∈ preds ops j → listed.getD p false=true:=fun p hp=>by
      unfold preds at hp;rw [ho] at hp
      obtain ⟨e,he,heq⟩:=List.mem_filterMap.1 hp
      split at heq
      ·rename_i hbd;cases heq;exact hpre e (by simpa using he) hbd
      ·cases heq
     have:=anc_done (D:=fun i=>listed.getD i false) hdown ops.size j m hjs (hanc m j h1 (by omega) hjs) hpreds
     have h9:listed.getD m false=true:=this
     rw [hu m (Nat.le_refl _)] at h9;cases h9
   subst hjm
   rw [List.range'_succ,wpOps_cons] at hw
   refine wpOp_mono (fun a' w' h=>?_) hw
   refine wpAny_tail hpr hanc k (j + 1) (by omega) (by omega) fuel (listed.setIfInBounds j true) a' w' (by simpa using hsz) (by omega) (fun i hi=>?_) (fun i hi=>?_) h
   ·by_cases e:i=j
    ·subst e;simp [show i < listed.size by omega]
    ·rw [getD_set_ne false (Ne.symm e)];exact hl i (by omega)
   ·rw [getD_set_ne false (show j ≠ i by omega)];exact hu i (by omega)
def drawnHead (E:Env) (C:FuncId → List AV → List ABlk → Option AV) (ops:Array Oper) (n:Nat) (s:St):Option St:=
 match runT E C ops s.h.length (s.h ++ List.replicate ops.size ABlk.unborn).length n 0 ⟨s.t,s.h ++ List.replicate ops.size ABlk.unborn⟩ with
 | some (rs,s1)=>if memOK ops rs then some ⟨s1.t,trimU s1.h⟩ else none
 | none=>none
def tailN (ops:Array Oper):Option Nat:=(List.range ops.size).find? (tailOK ops)
theorem tailN_ok {ops:Array Oper} {n:Nat} (h:tailN ops=some n):tailOK ops n=true:=List.find?_some h
theorem Run.drawnTail {P:Program} {E:Env} (T:TabOK P E) {C:FuncId → List AV → List ABlk → Option AV} (hC:Oracle P C) {q:Nat} {id:Nat} {ops:Array Oper} {n:Nat} {s s':St} {Q:Exit → St → Prop} (hsl:slotsOK ops=true) (htl:tailOK ops n=true) (hd:drawnHead E C ops n s=some s')
  (h:RunOps P q ops (List.range' n (ops.size - n)) Q s'):Run P q (.region id ops true) Q s:=fun X a w hX hs=>by
 obtain ⟨hn,hanc⟩:=tailOK_spec htl
 unfold Ev.drawnHead at hd
 split at hd
 ·rename_i rs s1 hrun
  split at hd
  ·rename_i hmem
   cases hd
   have hs0:Sim X ⟨s.t,s.h ++ List.replicate ops.size ABlk.unborn⟩ a w:=Sim.pad (t:=s.t) (h:=s.h) hs fun i=>by
    rcases Nat.lt_or_ge i s.h.length with hi | hi
    ·left;rw [List.getElem?_append_left hi]
    ·right
     refine ⟨.inl (List.getElem?_eq_none hi),?_⟩
     rw [List.getElem?_append_right hi,List.getElem?_replicate]
     split
     ·exact .inr rfl
     ·exact .inl rfl
   obtain ⟨h1,h2,h3⟩:=runT_spec (s0:=⟨s.t,s.h ++ List.replicate ops.size ABlk.unborn⟩) (all:=rs) n 0 _ [] rs s1 hrun rfl rfl rfl
   simp only [Nat.zero_add] at h1 h2 h3
   have hpr:predsOK ops ops.size=true:=by simp only [slotsOK,Bool.and_eq_true] at hsl;exact hsl.1
   refine wp_region_any T.mixed ?_
   refine wpAny_head (s0:=⟨s.t,s.h ++ List.replicate ops.size ABlk.unborn⟩) (b:=s.h.length) T hC hsl hmem n hn h2 (fun i j hi hj hs=>hanc i j (by omega) hj hs) (fun j hj=>h3 j (Nat.zero_le _) hj) (X:=X) (fun fuel listed a' w' hsz hcnt hl hu hs'=>?_) ops.size _ a _ (by simp) ?_ ?_ ?_ ?_
   ·have hk:ops.size - n ≤ fuel:=by
     have:∀ m,n ≤ m → m ≤ ops.size → m - n ≤ cntD (fun i=>listed.getD i false) m:=fun m=>by
      induction m with
      | zero=>intro _ _;omega
      | succ m ih =>
       intro h1 h2
       simp only [cntD]
       by_cases e:n=m + 1
       ·omega
       ·have:=ih (by omega) (by omega)
        have e9:(if listed.getD m false=true then 0 else 1)=1:=by simp only [hu m (by omega)];simp
        show m + 1 - n ≤ cntD (fun i=>listed.getD i false) m + (if listed.getD m false=true then 0 else 1)
        rw [e9];omega
     have:=this ops.size hn (Nat.le_refl _)
     omega
    refine wpAny_tail hpr hanc (ops.size - n) n (by omega) (Nat.le_refl _) fuel listed a' w' hsz hk hl hu ?_
    refine h X a' w' hX ?_
    rw [← h1] at hs'
    exact Sim.pad (t:=s1.t) (h:=s1.h) hs' (trimU_get s1.h)
   ·have:∀ (D:Nat → Bool) n,cntD D n ≤ n:=fun D n=>by
     induction n with
     | zero=>exact Nat.le_refl _
     | succ n ih=>simp only [cntD];split <;> omega
    exact this _ _
   ·intro j hj
    have hf:(Array.replicate ops.size false).getD j false=false:=by
     simp only [Array.getD_eq_getD_getElem?,Array.getElem?_replicate];split <;> rfl
    rw [hf] at hj;cases hj
   ·intro i _
    simp only [Array.getD_eq_getD_getElem?,Array.getElem?_replicate];split <;> rfl
   ·have:∀ n,stD ops rs ⟨s.t,s.h ++ List.replicate ops.size ABlk.unborn⟩ (fun i=>(Array.replicate ops.size false).getD i false) n=⟨s.t,s.h ++ List.replicate ops.size ABlk.unborn⟩:=fun n=>by
     induction n with
     | zero=>rfl
     | succ n ih =>
      have hf:(Array.replicate ops.size false).getD n false=false:=by
       simp only [Array.getD_eq_getD_getElem?,Array.getElem?_replicate];split <;> rfl
      simp only [stD,hf];exact ih
    rw [this]
    exact hs0.drew _
  ·cases hd
 ·cases hd
end Go.Ev
namespace Go.Ev
open Go.RowKit
variable [Globs]
def StepOK (P:Program) (ops:Array Oper) (i:Nat) (s:St) (v:AV) (h':List ABlk):Prop:=
 ∀ (X:Ent) (a:Act) (w:World) (Q:Exit → Act → World → Prop) (K:Act → World → Prop),Sim X s a w → (∀ a' w',Sim X ⟨setD s.t (dstOf ops i) v,h'⟩ a' w' → K a' w') → wpOp P ops Q i K a w
structure CRec where
 v:AV
 eff:Bool
 W:List Nat
 R:List Nat
def recC (r:CRec):Rec:=⟨r.v,[],r.R⟩
def slotC (ops:Array Oper) (rs:List CRec) (t:List AV) (D:Nat → Bool) (n:Nat):List AV:=(stD ops (rs.map recC) ⟨t,[]⟩ D n).t
def effAt (rs:List CRec) (i:Nat):Bool:=match rs[i]? with
 | some r=>r.eff
 | none=>false
def heapC (rs:List CRec) (hs:List (List ABlk)) (D:Nat → Bool):Nat → List ABlk
 | 0=>hs.getD 0 []
 | n + 1=>bif D n && effAt rs n then hs.getD (n + 1) [] else heapC rs hs D n
structure ChainAt (P:Program) (ops:Array Oper) (t:List AV) (rs:List CRec) (hs:List (List ABlk)) (j:Nat) (r:CRec):Prop where
 get:rs[j]?=some r
 quiet:r.eff=false → ∀ s':St,(∀ d,d ∈ lookAt ops j → s'.t[d]?=(slotC ops rs t (fun _=>true) j)[d]?) → (∀ id,id ∈ r.R → s'.h[id]?=(hs.getD j [])[id]?) → StepOK P ops j s' r.v s'.h
 same:r.eff=false → hs.getD (j + 1) []=hs.getD j []
 step:r.eff=true → ∀ s':St,(∀ d,d ∈ lookAt ops j → s'.t[d]?=(slotC ops rs t (fun _=>true) j)[d]?) → s'.h=hs.getD j [] → StepOK P ops j s' r.v (hs.getD (j + 1) [])
 keep:r.eff=true → ∀ id,id ∉ r.W → (hs.getD (j + 1) [])[id]?=(hs.getD j [])[id]?
def chainOK (ops:Array Oper) (rs:List CRec):Bool:=let T:=ancT ops ops.size
 (List.range rs.length).all fun j=>(List.range j).all fun i=>match rs[i]?,rs[j]? with
  | some a,some b=>match a.eff,b.eff with
   | true,true=>(T.getD j 0).testBit i
   | true,false=>(T.getD j 0).testBit i || b.R.all (fun id=>!a.W.contains id)
   | false,true=>(T.getD j 0).testBit i || a.R.all (fun id=>!b.W.contains id)
   | false,false=>true
  | _,_=>true
theorem chainOK_spec {ops:Array Oper} {rs:List CRec} (h:chainOK ops rs=true) {i j:Nat} {a b:CRec} (hij:i < j) (ha:rs[i]?=some a) (hb:rs[j]?=some b) :
  ((ancT ops ops.size).getD j 0).testBit i=true ∨ (a.eff=true ∧ b.eff=false ∧ ∀ id,id ∈ b.R → id ∉ a.W) ∨ (a.eff=false ∧ b.eff=true ∧ ∀ id,id ∈ a.R → id ∉ b.W) ∨ (a.eff=false ∧ b.eff=false):=by
 have hj:j < rs.length:=(List.getElem?_eq_some_iff.1 hb).1
 have:=List.all_eq_true.1 (List.all_eq_true.1 h j (List.mem_range.2 hj)) i (List.mem_range.2 hij)
 rw [ha,hb] at this
 simp only at this
 cases ea:a.eff <;> cases eb:b.eff <;> rw [ea,eb] at this <;> simp only [Bool.or_eq_true] at this
 ·exact .inr (.inr (.inr ⟨rfl,rfl⟩))
 ·rcases this with h1 | h1
  ·exact .inl h1
  ·refine .inr (.inr (.inl ⟨rfl,rfl,fun id hid=>?_⟩))
   have:=List.all_eq_true.1 h1 id hid
   simpa using this
 ·rcases this with h1 | h1
  ·exact .inl h1
  ·refine .inr (.inl ⟨rfl,rfl,fun id hid=>?_⟩)
   have:=List.all_eq_true.1 h1 id hid
   simpa using this
 ·exact .inl this
theorem heapC_none {rs:List CRec} {hs:List (List ABlk)} {D:Nat → Bool}:∀ (n m:Nat),m ≤ n → (∀ i,m ≤ i → i < n → D i=true → effAt rs i=false) → heapC rs hs D n=heapC rs hs D m
 | 0,m,hm,_=>by rw [Nat.le_zero.1 hm]
 | n + 1,m,hm,h=>by
  by_cases e:m=n + 1
  ·rw [e]
  ·simp only [heapC]
   have:(D n && effAt rs n)=false:=by
    cases hd:D n
    ·rfl
    ·rw [h n (by omega) (by omega) hd];rfl
   rw [this]
   simp only [cond_false]
   exact heapC_none n m (by omega) fun i h1 h2=>h i h1 (by omega)
theorem wpAny_chain {P:Program} {ops:Array Oper} {t:List AV} {rs:List CRec} {hs:List (List ABlk)} {Q:Exit → Act → World → Prop} {X:Ent}
  (hsl:slotsOK ops=true) (hch:chainOK ops rs=true) (hlen:rs.length=ops.size)
  (htext:∀ j,j < ops.size → ∃ r,ChainAt P ops t rs hs j r)
  (hQ:∀ a w,Sim X ⟨slotC ops rs t (fun _=>true) ops.size,hs.getD ops.size []⟩ a w → Q .normal a w) :
  ∀ (fuel:Nat) (listed:Array Bool) (a:Act) (w:World),listed.size=ops.size → cntD (fun i=>listed.getD i false) ops.size ≤ fuel →
   (∀ j,listed.getD j false=true → ∀ p,p ∈ preds ops j → listed.getD p false=true) →
   Sim X ⟨slotC ops rs t (fun i=>listed.getD i false) ops.size,heapC rs hs (fun i=>listed.getD i false) ops.size⟩ a w → wpAny P .any ops Q fuel listed a w:=by
 simp only [slotsOK,Bool.and_eq_true] at hsl
 obtain ⟨hpr,hsl⟩:=hsl
 have slots:∀ i j,i < j → j < ops.size → ((ancT ops ops.size).getD j 0).testBit i=true ∨ slotFree ops i j=true:=fun i j hij hj=>by
  have:=allPairs_spec hsl hij hj
  simpa using this
 have effR:∀ {i:Nat} {r:CRec},rs[i]?=some r → effAt rs i=r.eff:=fun h=>by simp [effAt,h]
 have hsame:∀ i,i < ops.size → effAt rs i=false → hs.getD (i + 1) []=hs.getD i []:=fun i hi he=>by
  obtain ⟨r,hr⟩:=htext i hi
  rw [effR hr.get] at he
  exact hr.same he
 have htxt:∀ n,n ≤ ops.size → heapC rs hs (fun _=>true) n=hs.getD n []:=fun n=>by
  induction n with
  | zero=>intro _;rfl
  | succ n ih =>
   intro hn
   simp only [heapC,Bool.true_and]
   cases he:effAt rs n with
   | true=>rfl
   | false =>
    simp only [cond_false]
    rw [ih (by omega)]
    exact (hsame n (by omega) he).symm
 have allOf:∀ (listed:Array Bool),(∀ i,i < ops.size → listed.getD i false=true) → slotC ops rs t (fun i=>listed.getD i false) ops.size=slotC ops rs t (fun _=>true) ops.size ∧ heapC rs hs (fun i=>listed.getD i false) ops.size=hs.getD ops.size []:=fun listed hall=>by
  have h1:∀ n,n ≤ ops.size → stD ops (rs.map recC) ⟨t,[]⟩ (fun i=>listed.getD i false) n=stD ops (rs.map recC) ⟨t,[]⟩ (fun _=>true) n:=by
   intro n
   induction n with
   | zero=>intro _;rfl
   | succ n ih=>intro hn;simp only [stD];rw [ih (by omega)];simp only [hall n (by omega)]
  have h2:∀ n,n ≤ ops.size → heapC rs hs (fun i=>listed.getD i false) n=heapC rs hs (fun _=>true) n:=by
   intro n
   induction n with
   | zero=>intro _;rfl
   | succ n ih=>intro hn;simp only [heapC];rw [ih (by omega)];simp only [hall n (by omega)]
  refine ⟨?_,?_⟩
  ·unfold slotC;rw [h1 _ (Nat.le_refl _)]
  ·rw [h2 _ (Nat.le_refl _),htxt _ (Nat.le_refl _)]
 have readyAll:∀ (listed:Array Bool),listed.size=ops.size → Region.ready .any ops listed=[] → ∀ i,i < ops.size → listed.getD i false=true:=fun listed hsz hr i=>by
  induction i using Nat.strongRecOn with
  | _ i ih =>
   intro hi
   cases hd:listed.getD i false with
   | true=>rfl
   | false =>
    exfalso
    have hmem:i ∈ Region.ready .any ops listed:=by
     rw [mem_ready]
     have hi':i < listed.size:=by omega
     have ho:ops[i]?=some ops[i]:=Array.getElem?_eq_getElem hi
     refine ⟨?_,ops[i],ho,fun e he hbd=>?_⟩
     ·simp only [Array.getD_eq_getD_getElem?,Array.getElem?_eq_getElem hi',Option.getD_some] at hd ⊢;exact hd
     ·have hp:e.on ∈ preds ops i:=by
       unfold preds;rw [ho]
       exact List.mem_filterMap.2 ⟨e,by simpa using he,by rw [if_pos hbd]⟩
      have hlt:=predsOK_lt hpr i hi _ hp
      exact ih e.on hlt (by omega)
    rw [hr] at hmem;cases hmem
 intro fuel
 induction fuel with
 | zero =>
  intro listed a w hsz hcnt hdown hs'
  have hall:=cntD_zero (Nat.le_zero.1 hcnt)
  obtain ⟨e1,e2⟩:=allOf listed hall
  refine ⟨?_,hQ a w (by rw [← e1,← e2];exact hs')⟩
  cases hr:Region.ready .any ops listed with
  | nil=>rfl
  | cons i l =>
   have hm:i ∈ Region.ready .any ops listed:=by rw [hr];simp
   obtain ⟨h0,o,ho,_⟩:=mem_ready.1 hm
   have hi:i < ops.size:=(Array.getElem?_eq_some_iff.1 ho).1
   have h1:=hall i hi
   simp only [Array.getD_eq_getD_getElem?,Array.getElem?_eq_getElem (show i < listed.size by omega),Option.getD_some] at h0 h1
   rw [h0] at h1;cases h1
 | succ fuel ih =>
  intro listed a w hsz hcnt hdown hs'
  refine ⟨fun hr=>?_,fun j hj=>?_⟩
  ·obtain ⟨e1,e2⟩:=allOf listed (readyAll listed hsz hr)
   exact hQ a w (by rw [← e1,← e2];exact hs')
  obtain ⟨h0,o,ho,hpre⟩:=mem_ready.1 hj
  have hjl:j < ops.size:=(Array.getElem?_eq_some_iff.1 ho).1
  have hD:listed.getD j false=false:=by
   simp only [Array.getD_eq_getD_getElem?,Array.getElem?_eq_getElem (show j < listed.size by omega),Option.getD_some] at h0 ⊢;exact h0
  have hpreds:∀ p,p ∈ preds ops j → listed.getD p false=true:=fun p hp=>by
   unfold preds at hp;rw [ho] at hp
   obtain ⟨e,he,heq⟩:=List.mem_filterMap.1 hp
   split at heq
   ·rename_i hbd;cases heq;exact hpre e (by simpa using he) hbd
   ·cases heq
  obtain ⟨r,ht⟩:=htext j hjl
  have hr:=ht.get
  have ancDone:∀ i,((ancT ops ops.size).getD j 0).testBit i=true → listed.getD i false=true:=fun i hanc =>
   anc_done (D:=fun i=>listed.getD i false) hdown ops.size j i hjl hanc hpreds
  have ancLate:∀ i,i < ops.size → ((ancT ops ops.size).getD i 0).testBit j=true → listed.getD i false=false:=fun i hi hanc=>by
   cases hdi:listed.getD i false with
   | false=>rfl
   | true =>
    have:=anc_done (D:=fun i=>listed.getD i false) hdown ops.size i j hi hanc (fun p hp=>hdown i hdi p hp)
    have h9:listed.getD j false=true:=this
    rw [hD] at h9;cases h9
  have agree:∀ i,i < ops.size → (i < j → slotFree ops i j=false → listed.getD i false=true) ∧ (j < i → slotFree ops j i=false → listed.getD i false=false):=fun i hi =>
   ⟨fun hij hc=>ancDone i ((slots i j hij hjl).resolve_right (by rw [hc];simp)),fun hij hc=>ancLate i hi ((slots j i hij hi).resolve_right (by rw [hc];simp))⟩
  have pre:∀ n,j ≤ n → stD ops (rs.map recC) ⟨t,[]⟩ (fun i=>decide (i < j)) n=stD ops (rs.map recC) ⟨t,[]⟩ (fun _=>true) j:=by
   have below:∀ n,n ≤ j → stD ops (rs.map recC) ⟨t,[]⟩ (fun i=>decide (i < j)) n=stD ops (rs.map recC) ⟨t,[]⟩ (fun _=>true) n:=by
    intro n
    induction n with
    | zero=>intro _;rfl
    | succ n ihn=>intro hn;simp only [stD];rw [ihn (by omega)];simp [show n < j by omega]
   intro n
   induction n with
   | zero =>
    intro hn
    have h9:=below 0 (Nat.zero_le _)
    have e0:j=0:=by omega
    rw [h9,e0]
   | succ n ihn =>
    intro hn
    by_cases e:j=n + 1
    ·rw [← e];exact below j (Nat.le_refl _)
    ·simp only [stD];simp [show ¬ n < j by omega];exact ihn (by omega)
  have tslot:∀ d,d ∈ lookAt ops j → (slotC ops rs t (fun i=>listed.getD i false) ops.size)[d]?=(slotC ops rs t (fun _=>true) j)[d]?:=fun d hd=>by
   unfold slotC
   rw [← pre ops.size (Nat.le_of_lt hjl)]
   refine stD_slot _ fun i hi hdst=>?_
   have hlook:(lookAt ops j).contains d=true:=by simpa using hd
   rcases Nat.lt_trichotomy i j with h1 | h1 | h1
   ·simp only [h1,decide_true]
    exact (agree i hi).1 h1 (by simp only [slotFree,hdst,hlook];simp)
   ·subst h1;simp only [hD];simp
   ·have:=(agree i hi).2 h1 (by simp only [slotFree,hdst,hlook];simp)
    simp only [this];simp;omega
  have hset:∀ i,i ≠ j → (listed.setIfInBounds j true).getD i false=listed.getD i false:=fun i hi=>getD_set_ne false (Ne.symm hi)
  have hsetj:(listed.setIfInBounds j true).getD j false=true:=by simp [show j < listed.size by omega]
  have bnd:Bnd (rs.map recC) 0:=fun i id hid=>by
   unfold domOf at hid
   rw [List.getElem?_map] at hid
   cases hri:rs[i]? with
   | none=>rw [hri] at hid;simp at hid
   | some q=>rw [hri] at hid;simp [recC] at hid
  have hslotS:setD (slotC ops rs t (fun i=>listed.getD i false) ops.size) (dstOf ops j) r.v=slotC ops rs t (fun i=>(listed.setIfInBounds j true).getD i false) ops.size:=by
   unfold slotC
   rw [stD_insert (D:=fun i=>listed.getD i false) bnd rfl hD hsetj hset ops.size hjl]
   ·unfold putR
    rw [ho,List.getElem?_map,hr]
    simp only [Option.map_some,recC,dstOf,ho,Option.bind_some]
   ·intro i h1 h2 hDi
    have hDi:listed.getD i false=true:=hDi
    have hno:=(agree i h2).2 h1
    refine ⟨fun x hx hxi=>?_,fun x hx hxi=>?_⟩
    ·have:=hno (by simp only [slotFree,hx,hxi];simp)
     rw [hDi] at this;cases this
    ·have:=bnd j x hx;omega
  have next:∀ h',h'=heapC rs hs (fun i=>(listed.setIfInBounds j true).getD i false) ops.size → ∀ a' w',Sim X ⟨setD (slotC ops rs t (fun i=>listed.getD i false) ops.size) (dstOf ops j) r.v,h'⟩ a' w' → wpAny P .any ops Q fuel (listed.setIfInBounds j true) a' w':=fun h' he a' w' hs2=>by
   refine ih (listed.setIfInBounds j true) a' w' (by simpa using hsz) ?_ ?_ ?_
   ·have:=(cntD_set (D:=fun i=>listed.getD i false) (D':=fun i=>(listed.setIfInBounds j true).getD i false) hD hsetj hset ops.size).2 hjl
    omega
   ·intro k hk p hp
    by_cases e:k=j
    ·subst e
     exact getD_set_true (hpreds p hp)
    ·rw [hset k e] at hk
     exact getD_set_true (hdown k hk p hp)
   ·rw [← hslotS,← he];exact hs2
  cases he:r.eff with
  | true =>
   have ea:effAt rs j=true:=by rw [effR hr];exact he
   have early:∀ i,i < j → effAt rs i=true → listed.getD i false=true:=fun i hij hei=>by
    obtain ⟨q,hq⟩:=htext i (by omega)
    rw [effR hq.get] at hei
    rcases chainOK_spec hch hij hq.get hr with h1 | ⟨_,h1,_⟩ | ⟨h1,_⟩ | ⟨h1,_⟩
    ·exact ancDone i h1
    ·rw [he] at h1;cases h1
    ·rw [hei] at h1;cases h1
    ·rw [hei] at h1;cases h1
   have late:∀ i,j < i → i < ops.size → effAt rs i=true → listed.getD i false=false:=fun i hij hi hei=>by
    obtain ⟨q,hq⟩:=htext i hi
    rw [effR hq.get] at hei
    rcases chainOK_spec hch hij hr hq.get with h1 | ⟨_,h1,_⟩ | ⟨h1,_⟩ | ⟨h1,_⟩
    ·exact ancLate i hi h1
    ·rw [hei] at h1;cases h1
    ·rw [he] at h1;cases h1
    ·rw [he] at h1;cases h1
   have below:∀ n,n ≤ j → heapC rs hs (fun i=>listed.getD i false) n=hs.getD n []:=fun n=>by
    induction n with
    | zero=>intro _;rfl
    | succ n ihn =>
     intro hn
     simp only [heapC]
     cases hen:effAt rs n with
     | true=>rw [early n (by omega) hen];rfl
     | false =>
      simp only [Bool.and_false,cond_false]
      rw [ihn (by omega),hsame n (by omega) hen]
   have hh:heapC rs hs (fun i=>listed.getD i false) ops.size=hs.getD j []:=by
    rw [heapC_none ops.size j (Nat.le_of_lt hjl) fun i h1 h2 hd=>?_,below j (Nat.le_refl _)]
    cases hei:effAt rs i with
    | false=>rfl
    | true =>
     by_cases e:i=j
     ·subst e
      have hd:listed.getD i false=true:=hd
      rw [hD] at hd;cases hd
     ·have:=late i (by omega) h2 hei
      have hd:listed.getD i false=true:=hd
      rw [this] at hd;cases hd
   have hh':heapC rs hs (fun i=>(listed.setIfInBounds j true).getD i false) ops.size=hs.getD (j + 1) []:=by
    rw [heapC_none ops.size (j + 1) (by omega) fun i h1 h2 hd=>?_]
    ·simp only [heapC]
     rw [hsetj,ea];rfl
    ·cases hei:effAt rs i with
     | false=>rfl
     | true =>
      have:=late i (by omega) h2 hei
      have hd:(listed.setIfInBounds j true).getD i false=true:=hd
      rw [hset i (by omega),this] at hd;cases hd
   exact ht.step he ⟨slotC ops rs t (fun i=>listed.getD i false) ops.size,heapC rs hs (fun i=>listed.getD i false) ops.size⟩ tslot hh X a w Q _ hs' (next _ hh'.symm)
  | false =>
   have ea:effAt rs j=false:=by rw [effR hr];exact he
   have keepA:∀ i,i < j → effAt rs i=true → listed.getD i false=false → ∀ id,id ∈ r.R → (hs.getD (i + 1) [])[id]?=(hs.getD i [])[id]?:=fun i hij hei hni id hid=>by
    obtain ⟨q,hq⟩:=htext i (by omega)
    rw [effR hq.get] at hei
    refine hq.keep hei id ?_
    rcases chainOK_spec hch hij hq.get hr with h1 | ⟨_,_,h1⟩ | ⟨h1,_⟩ | ⟨h1,_⟩
    ·rw [ancDone i h1] at hni;cases hni
    ·exact h1 id hid
    ·rw [hei] at h1;cases h1
    ·rw [hei] at h1;cases h1
   have keepB:∀ i,j < i → i < ops.size → effAt rs i=true → listed.getD i false=true → ∀ id,id ∈ r.R → (hs.getD (i + 1) [])[id]?=(hs.getD i [])[id]?:=fun i hij hi hei hdi id hid=>by
    obtain ⟨q,hq⟩:=htext i hi
    rw [effR hq.get] at hei
    refine hq.keep hei id ?_
    rcases chainOK_spec hch hij hr hq.get with h1 | ⟨h1,_⟩ | ⟨_,_,h1⟩ | ⟨_,h1⟩
    ·rw [ancLate i hi h1] at hdi;cases hdi
    ·rw [he] at h1;cases h1
    ·exact h1 id hid
    ·rw [hei] at h1;cases h1
   have pref:∀ i k,i < k → k < ops.size → effAt rs i=true → effAt rs k=true → listed.getD k false=true → listed.getD i false=true:=fun i k hik hk hei hek hdk=>by
    obtain ⟨q,hq⟩:=htext i (by omega)
    obtain ⟨p,hp⟩:=htext k hk
    rw [effR hq.get] at hei
    rw [effR hp.get] at hek
    rcases chainOK_spec hch hik hq.get hp.get with h1 | ⟨_,h1,_⟩ | ⟨h1,_⟩ | ⟨h1,_⟩
    ·exact anc_done (D:=fun i=>listed.getD i false) hdown ops.size k i hk h1 (fun p hp=>hdown k hdk p hp)
    ·rw [hek] at h1;cases h1
    ·rw [hei] at h1;cases h1
    ·rw [hei] at h1;cases h1
   have low:∀ n,n ≤ j → ∀ id,id ∈ r.R → (heapC rs hs (fun i=>listed.getD i false) n)[id]?=(hs.getD n [])[id]?:=fun n=>by
    induction n with
    | zero=>intro _ _ _;rfl
    | succ n ihn =>
     intro hn id hid
     simp only [heapC]
     cases hen:effAt rs n with
     | true =>
      cases hdn:listed.getD n false with
      | true=>rfl
      | false =>
       simp only [Bool.false_and,cond_false]
       rw [ihn (by omega) id hid,keepA n (by omega) hen hdn id hid]
     | false =>
      simp only [Bool.and_false,cond_false]
      rw [ihn (by omega) id hid,hsame n (by omega) hen]
   have high:∀ n,j ≤ n → n ≤ ops.size → ∀ id,id ∈ r.R → (heapC rs hs (fun i=>listed.getD i false) n)[id]?=(hs.getD j [])[id]?:=fun n=>by
    induction n with
    | zero=>intro h1 _ id hid;rw [low 0 (Nat.zero_le _) id hid,show j=0 by omega]
    | succ n ihn =>
     intro h1 h2 id hid
     by_cases e:j=n + 1
     ·rw [← e];exact low j (Nat.le_refl _) id hid
     ·simp only [heapC]
      cases hen:effAt rs n with
      | false=>simp only [Bool.and_false,cond_false];exact ihn (by omega) (by omega) id hid
      | true =>
       cases hdn:listed.getD n false with
       | false=>simp only [Bool.false_and,cond_false];exact ihn (by omega) (by omega) id hid
       | true =>
        simp only [Bool.true_and,cond_true]
        have hjn:j < n:=by
         rcases Nat.lt_trichotomy j n with h | h | h
         ·exact h
         ·subst h;rw [ea] at hen;cases hen
         ·omega
        have go:∀ m,j ≤ m → m ≤ n + 1 → (hs.getD m [])[id]?=(hs.getD j [])[id]?:=fun m=>by
         induction m with
         | zero=>intro h _;rw [show j=0 by omega]
         | succ m ihm =>
          intro h3 h4
          by_cases e2:j=m + 1
          ·rw [e2]
          ·rw [← ihm (by omega) (by omega)]
           cases hem:effAt rs m with
           | false=>rw [hsame m (by omega) hem]
           | true =>
            have hjm:j < m:=by
             rcases Nat.lt_trichotomy j m with h | h | h
             ·exact h
             ·subst h;rw [ea] at hem;cases hem
             ·omega
            have hdm:listed.getD m false=true:=by
             by_cases e3:m=n
             ·rw [e3];exact hdn
             ·exact pref m n (by omega) (by omega) hem hen hdn
            exact keepB m hjm (by omega) hem hdm id hid
        exact go (n + 1) (by omega) (Nat.le_refl _)
   have hh':heapC rs hs (fun i=>(listed.setIfInBounds j true).getD i false) ops.size=heapC rs hs (fun i=>listed.getD i false) ops.size:=by
    have:∀ n,heapC rs hs (fun i=>(listed.setIfInBounds j true).getD i false) n=heapC rs hs (fun i=>listed.getD i false) n:=fun n=>by
     induction n with
     | zero=>rfl
     | succ n ihn =>
      simp only [heapC]
      rw [ihn]
      by_cases e:n=j
      ·subst e;rw [ea];simp
      ·rw [hset n e]
    exact this _
   exact ht.quiet he ⟨slotC ops rs t (fun i=>listed.getD i false) ops.size,heapC rs hs (fun i=>listed.getD i false) ops.size⟩ tslot (high ops.size (Nat.le_of_lt hjl) (Nat.le_refl _)) X a w Q _ hs' (next _ hh'.symm)
theorem Run.chain {P:Program} {E:Env} (T:TabOK P E) {q:Nat} {id:Nat} {ops:Array Oper} {s:St} {rs:List CRec} {hs:List (List ABlk)} {Q:Exit → St → Prop} (hsl:slotsOK ops=true) (hch:chainOK ops rs=true) (hlen:rs.length=ops.size)
  (h0:hs.getD 0 []=s.h) (htext:∀ j,j < ops.size → ∃ r,ChainAt P ops s.t rs hs j r) (h:Q .normal ⟨slotC ops rs s.t (fun _=>true) ops.size,hs.getD ops.size []⟩):Run P q (.region id ops true) Q s:=fun X a w hX hs'=>by
 refine wp_region_any T.mixed ?_
 refine wpAny_chain (X:=X) hsl hch hlen htext (fun a' w' hs2=>⟨_,hs2,h⟩) ops.size _ a _ (by simp) ?_ ?_ ?_
 ·have:∀ (D:Nat → Bool) n,cntD D n ≤ n:=fun D n=>by
   induction n with
   | zero=>exact Nat.le_refl _
   | succ n ih=>simp only [cntD];split <;> omega
  exact this _ _
 ·intro j hj
  have hf:(Array.replicate ops.size false).getD j false=false:=by
   simp only [Array.getD_eq_getD_getElem?,Array.getElem?_replicate];split <;> rfl
  rw [hf] at hj;cases hj
 ·have hf:∀ i,(Array.replicate ops.size false).getD i false=false:=fun i=>by
   simp only [Array.getD_eq_getD_getElem?,Array.getElem?_replicate];split <;> rfl
  have h1:∀ n,stD ops (rs.map recC) ⟨s.t,[]⟩ (fun i=>(Array.replicate ops.size false).getD i false) n=⟨s.t,[]⟩:=fun n=>by
   induction n with
   | zero=>rfl
   | succ n ih =>
    simp only [stD];rw [if_neg (by rw [hf n];simp)];exact ih
  have h2:∀ n,heapC rs hs (fun i=>(Array.replicate ops.size false).getD i false) n=s.h:=fun n=>by
   induction n with
   | zero=>exact h0
   | succ n ih=>simp only [heapC];rw [hf n];exact ih
  rw [h2]
  unfold slotC
  rw [h1]
  exact hs'.drew _
structure StepRec (P:Program) (ops:Array Oper) (i:Nat) (s:St) (r:CRec) (h':List ABlk):Prop where
 quiet:r.eff=false → ∀ s':St,(∀ d,d ∈ lookAt ops i → s'.t[d]?=s.t[d]?) → (∀ id,id ∈ r.R → s'.h[id]?=s.h[id]?) → StepOK P ops i s' r.v s'.h
 same:r.eff=false → h'=s.h
 step:r.eff=true → ∀ s':St,(∀ d,d ∈ lookAt ops i → s'.t[d]?=s.t[d]?) → s'.h=s.h → StepOK P ops i s' r.v h'
 keep:r.eff=true → ∀ id,id ∉ r.W → h'[id]?=s.h[id]?
inductive TextRun (P:Program) (ops:Array Oper):Nat → St → List CRec → List (List ABlk) → St → Prop
 | nil (i:Nat) (s:St):TextRun P ops i s [] [] s
 | cons {i:Nat} {s:St} {r:CRec} {h':List ABlk} {rs:List CRec} {hs:List (List ABlk)} {s':St} (st:StepRec P ops i s r h') (t:TextRun P ops (i + 1) ⟨setD s.t (dstOf ops i) r.v,h'⟩ rs hs s'):TextRun P ops i s (r :: rs) (h' :: hs) s'
theorem TextRun.spec {P:Program} {ops:Array Oper} {t0:List AV} {all:List CRec} {hall:List (List ABlk)} {i:Nat} {s:St} {rs:List CRec} {hs:List (List ABlk)} {s':St} (h:TextRun P ops i s rs hs s'):∀ (pre:List CRec) (hpre:List (List ABlk)),
  all=pre ++ rs → hall=hpre ++ hs → pre.length=i → hpre.length=i + 1 → (∀ j,j < i + rs.length → j < ops.size) → s.t=slotC ops all t0 (fun _=>true) i → s.h=hall.getD i [] →
  s'.t=slotC ops all t0 (fun _=>true) (i + rs.length) ∧ s'.h=hall.getD (i + rs.length) [] ∧ ∀ j,i ≤ j → j < i + rs.length → ∃ r,ChainAt P ops t0 all hall j r:=by
 induction h with
 | nil i s=>intro pre hpre _ _ _ _ _ h1 h2;exact ⟨h1,h2,fun j a b=>by simp at b;omega⟩
 | @cons i s r h' rs hs s' st t ih =>
  intro pre hpre ha hh hp hhp hsz h1 h2
  have hi:i < ops.size:=hsz i (by simp only [List.length_cons];omega)
  have hget:all[i]?=some r:=by rw [ha,List.getElem?_append_right (by omega),hp];simp
  have hnext:hall.getD (i + 1) []=h':=by
   rw [hh,List.getD_eq_getElem?_getD,List.getElem?_append_right (by omega),hhp];simp
  obtain ⟨g1,g2,g3⟩:=ih (pre ++ [r]) (hpre ++ [h']) (by rw [ha];simp) (by rw [hh];simp) (by simp [hp]) (by simp [hhp]) (fun j hj=>hsz j (by simp only [List.length_cons];omega)) (by
   simp only [slotC,stD,if_true,putR]
   have ho:ops[i]?=some ops[i]:=Array.getElem?_eq_getElem hi
   rw [ho,List.getElem?_map,hget]
   simp only [Option.map_some,recC,dstOf,ho,Option.bind_some]
   rw [h1];rfl) hnext.symm
  refine ⟨by rw [g1];congr 1;simp only [List.length_cons];omega,by rw [g2];congr 1;simp only [List.length_cons];omega,fun j a b=>?_⟩
  by_cases e:j=i
  ·subst e
   refine ⟨r,hget,fun he s' q1 q2=>st.quiet he s' (fun d hd=>(q1 d hd).trans (by rw [h1])) (fun id hid=>(q2 id hid).trans (by rw [h2])),fun he=>by rw [hnext,st.same he,h2],fun he s' q1 q2=>?_,fun he id hid=>?_⟩
   ·rw [hnext]
    exact st.step he s' (fun d hd=>(q1 d hd).trans (by rw [h1])) (q2.trans h2.symm)
   ·rw [hnext,← h2];exact st.keep he id hid
  ·exact g3 j (by omega) (by simp only [List.length_cons] at b;omega)
theorem Run.chainT {P:Program} {E:Env} (T:TabOK P E) {q:Nat} {id:Nat} {ops:Array Oper} {s s':St} {rs:List CRec} {hs:List (List ABlk)} {Q:Exit → St → Prop} (hsl:slotsOK ops=true) (hch:chainOK ops rs=true) (hlen:rs.length=ops.size)
  (ht:TextRun P ops 0 s rs hs s') (h:Q .normal s'):Run P q (.region id ops true) Q s:=by
 obtain ⟨g1,g2,g3⟩:=ht.spec (t0:=s.t) (all:=rs) (hall:=s.h :: hs) [] [s.h] rfl rfl rfl rfl (fun j hj=>by omega) rfl rfl
 rw [Nat.zero_add,hlen] at g1 g2 g3
 refine Run.chain T hsl hch hlen (hs:=s.h :: hs) rfl (fun j hj=>g3 j (Nat.zero_le _) (by omega)) ?_
 obtain ⟨t',h'⟩:=s'
 simp only at g1 g2
 rw [← g1,← g2];exact h
def noNew:Op → Bool
 | .move _ | .pick .. | .load .. | .nilCheck _ | .binOp .. | .unOp .. | .makeFunc .. | .fieldAddr .. | .indexAddr .. | .index .. | .field .. | .extract .. | .lookup .. | .build ..=>true
 | .assign (.tmp _)=>true
 | .call { callee:=.builtin .len,args:=_,argTypes:=_ }=>true
 | _=>false
theorem noNew_nw (E:Env) {op:Op} (hn:noNew op=true) (ty:TypeId) (t:List AV) (h:List ABlk) (nw nw':Nat):evOp E op ty t h nw=evOp E op ty t h nw':=by
 cases op with
 | assign x=>cases x <;> first | rfl | cases hn
 | makeFunc f a b=>cases f <;> rfl
 | call c =>
  obtain ⟨callee,args,ats⟩:=c
  cases callee with
  | builtin b=>cases b <;> first | (cases hn;done) | rfl
  | _=>cases hn
 | _=>first | rfl | cases hn
section
variable {P:Program} {E:Env} (T:TabOK P E) {ops:Array Oper} {i:Nat} {o:Oper} {s:St}
theorem look_val (hi:ops[i]?=some o) {s':St} (ht:∀ d,d ∈ lookAt ops i → s'.t[d]?=s.t[d]?):(∀ x,x ∈ o.op.operands → opd s'.t x=opd s.t x) ∧ wantedA ops s'.t o=wantedA ops s.t o:=by
 have ht':∀ d,d ∈ o.looksAt ops → s'.t[d]?=s.t[d]?:=fun d hd=>ht d (by simp only [lookAt,hi];exact hd)
 refine ⟨fun x hx=>?_,?_⟩
 ·cases x with
  | tmp d=>exact ht' d (List.mem_append_left _ (List.mem_filterMap.2 ⟨.tmp d,by simpa using hx,rfl⟩))
  | _=>rfl
 ·unfold wantedA
  cases hg:o.guard with
  | none=>rfl
  | some gw =>
   obtain ⟨g,want⟩:=gw
   simp only []
   cases hd:(ops[g]?).bind (·.dst) with
   | none=>rfl
   | some d=>simp only [Option.bind_some];rw [ht' d (by simp [Oper.looksAt,hg,hd])]
theorem StepRec.skip (hi:ops[i]?=some o) (hw:wantedA ops s.t o=some false):StepRec P ops i s ⟨.und,false,[],[]⟩ s.h where
 quiet:=fun _ s' ht _ X a w Q K hs hk=>by
  obtain ⟨_,h2⟩:=look_val (s:=s) hi ht
  refine wpOp_skip hi (h2.trans hw) hs fun a' w' h=>hk a' w' ?_
  simpa [dstOf,hi] using h
 same:=fun _=>rfl
 step:=fun h=>by cases h
 keep:=fun h=>by cases h
include T
theorem StepRec.look {v:AV} (hi:ops[i]?=some o) (hw:wantedA ops s.t o=some true) (hn:noNew o.op=true) {nw:Nat} (hv:evOp E o.op o.type s.t s.h nw=some (v,[])):StepRec P ops i s ⟨v,false,[],if movesB o.op then [] else o.op.operands.toList.flatMap (idsOf s.t)⟩ s.h where
 quiet:=fun _ s' ht hh X a w Q K hs hk=>by
  obtain ⟨h1,h2⟩:=look_val (s:=s) hi ht
  have hE:evOp E o.op o.type s'.t s'.h s'.h.length=some (v,[]):=by
   rw [← hv]
   cases hm:movesB o.op with
   | true =>
    generalize o.op=op at hm h1
    cases op <;> first | (cases hm;done) | skip
    rename_i x
    simp only [evOp,h1 x (by simp [Op.operands])]
   | false =>
    rw [noNew_nw E hn o.type s.t s.h nw s'.h.length]
    refine evOp_same E o.op o.type _ fun x hx=>⟨h1 x hx,fun v hv id hid=>hh id ?_⟩
    rw [hm]
    simp only [Bool.false_eq_true,if_false]
    exact List.mem_flatMap.2 ⟨x,by simpa using hx,by unfold idsOf;rw [hv];exact hid⟩
  refine wpOp_op T hi (h2.trans hw) (.inl rfl) (U:=[]) (v:=v) (by unfold evOpC;rw [hE]) hs fun a' w' h=>hk a' w' ?_
  simpa [dstOf,hi,app] using h
 same:=fun _=>rfl
 step:=fun h=>by cases h
 keep:=fun h=>by cases h
theorem app_keep:∀ (U:List (Nat × ABlk)) (h:List ABlk) (id:Nat),id ∉ U.map (·.1) → id < h.length → (app h U)[id]?=h[id]?
 | [],_,_,_,_=>rfl
 | (i,k) :: U,h,id,hn,hl=>by
  simp only [List.map_cons,List.mem_cons,not_or] at hn
  simp only [app,hput]
  split
  ·rw [app_keep U _ id hn.2 (by simpa using hl),List.getElem?_set_ne (Ne.symm hn.1)]
  ·rw [app_keep U _ id hn.2 (by simp;omega),List.getElem?_append_left hl]
omit T in
theorem hput_keep {h:List ABlk} {i id:Nat} {k:ABlk} (hi:i ≤ h.length) (hne:id ≠ i):(hput h i k)[id]?=h[id]?:=hput_ne hi hne
theorem StepRec.turn {v:AV} {U:List (Nat × ABlk)} (hi:ops[i]?=some o) (hw:wantedA ops s.t o=some true) (hv:evOp E o.op o.type s.t s.h s.h.length=some (v,U)) (hU:U.all (fun p=>decide (p.1 ≤ s.h.length))=true):StepRec P ops i s ⟨v,true,U.map (·.1),[]⟩ (app s.h U) where
 quiet:=fun h=>by cases h
 same:=fun h=>by cases h
 step:=fun _ s' ht hh X a w Q K hs hk=>by
  obtain ⟨h1,h2⟩:=look_val (s:=s) hi ht
  have hE:evOp E o.op o.type s'.t s'.h s'.h.length=some (v,U):=by
   rw [hh,← hv]
   exact evOp_same E o.op o.type _ fun x hx=>⟨h1 x hx,fun _ _ _ _=>rfl⟩
  refine wpOp_op T hi (h2.trans hw) (.inl rfl) (by unfold evOpC;rw [hE]) hs fun a' w' h=>hk a' w' ?_
  rw [hh] at h
  simpa [dstOf,hi] using h
 keep:=fun _ id hid=>by
  have:∀ (U:List (Nat × ABlk)) (h:List ABlk),s.h.length ≤ h.length → U.all (fun p=>decide (p.1 ≤ s.h.length))=true → id ∉ U.map (·.1) → (app h U)[id]?=h[id]?:=fun U=>by
   induction U with
   | nil=>intro h _ _ _;rfl
   | cons p U ih =>
    intro h hl hb hn
    obtain ⟨j,k⟩:=p
    simp only [List.map_cons,List.mem_cons,not_or] at hn
    simp only [List.all_cons,Bool.and_eq_true,decide_eq_true_eq] at hb
    simp only [app]
    rw [ih _ (by unfold hput;split <;> simp <;> omega) hb.2 hn.2]
    exact hput_ne (by omega) hn.1
  exact this U s.h (Nat.le_refl _) hU hid
omit T
theorem StepRec.call {f:FuncId} {args:List AV} {r:AV} {h':List ABlk} (W:List Nat) (hi:ops[i]?=some o) (hw:wantedA ops s.t o=some true) (hc:callOf s.t o=some (f,args)) (G:Good P f args s.h r h') (hk:∀ id,id ∉ W → h'[id]?=s.h[id]?):StepRec P ops i s ⟨r,true,W,[]⟩ h' where
 quiet:=fun h=>by cases h
 same:=fun h=>by cases h
 step:=fun _ s' ht hh X a w Q K hs hk2=>by
  obtain ⟨h1,h2⟩:=look_val (s:=s) hi ht
  have hc':callOf s'.t o=some (f,args):=by rw [callOf_same h1];exact hc
  obtain ⟨c,fo,fv,as1,caps,q1,q2,q3,q4,q5,rfl⟩:=callOf_spec hc'
  refine wpOp_call hi (h2.trans hw) q1 q2 q3 q5 q4 (by rw [hh];exact G) hs fun a' w' h=>hk2 a' w' ?_
  simpa [dstOf,hi] using h
 keep:=fun _=>hk
theorem StepRec.tells {f:FuncId} {args:List AV} {r:AV} (R:List Nat) (hi:ops[i]?=some o) (hw:wantedA ops s.t o=some true) (hc:callOf s.t o=some (f,args)) (G:∀ h':List ABlk,(∀ id,id ∈ R → h'[id]?=s.h[id]?) → Good P f args h' r h'):StepRec P ops i s ⟨r,false,[],R⟩ s.h where
 quiet:=fun _ s' ht hh X a w Q K hs hk2=>by
  obtain ⟨h1,h2⟩:=look_val (s:=s) hi ht
  have hc':callOf s'.t o=some (f,args):=by rw [callOf_same h1];exact hc
  obtain ⟨c,fo,fv,as1,caps,q1,q2,q3,q4,q5,rfl⟩:=callOf_spec hc'
  refine wpOp_call hi (h2.trans hw) q1 q2 q3 q5 q4 (G s'.h hh) hs fun a' w' h=>hk2 a' w' ?_
  simpa [dstOf,hi] using h
 same:=fun _=>rfl
 step:=fun h=>by cases h
 keep:=fun h=>by cases h
end
def diffs:List ABlk → List ABlk → Nat → List Nat
 | [],m,n=>(List.range m.length).map (n + ·)
 | _ :: l,[],n=>n :: diffs l [] (n + 1)
 | a :: l,b :: m,n=>if a.same b then diffs l m (n + 1) else n :: diffs l m (n + 1)
theorem diffs_spec:∀ (l m:List ABlk) (n id:Nat),(n + id) ∉ diffs l m n → m[id]?=l[id]?
 | [],m,n,id,h=>by
  rw [List.getElem?_nil]
  refine List.getElem?_eq_none ?_
  rcases Nat.lt_or_ge id m.length with h1 | h1
  ·exact absurd (List.mem_map.2 ⟨id,List.mem_range.2 h1,rfl⟩) h
  ·exact h1
 | a :: l,b :: m,n,id,h=>by
  unfold diffs at h
  split at h
  ·rename_i hs
   cases id with
   | zero=>simp [ABlk.same_eq a b hs]
   | succ id=>simpa using diffs_spec l m (n + 1) id (by rw [show n + 1 + id=n + (id + 1) by omega];exact h)
  ·simp only [List.mem_cons,not_or] at h
   cases id with
   | zero=>exact absurd (Nat.add_zero n) h.1
   | succ id=>simpa using diffs_spec l m (n + 1) id (by rw [show n + 1 + id=n + (id + 1) by omega];exact h.2)
 | a :: l,[],n,id,h=>by
  unfold diffs at h
  simp only [List.mem_cons,not_or] at h
  cases id with
  | zero=>exact absurd (Nat.add_zero n) h.1
  | succ id=>simpa using diffs_spec l [] (n + 1) id (by rw [show n + 1 + id=n + (id + 1) by omega];exact h.2)
def chainRun (E:Env) (K:FuncId → List AV → List ABlk → Option (AV × List ABlk)) (ops:Array Oper):Nat → Nat → St → Option (List CRec × St)
 | 0,_,s=>some ([],s)
 | k + 1,i,s=>match ops[i]? with
  | none=>none
  | some o=>match wantedA ops s.t o with
   | none=>none
   | some false=>(chainRun E K ops k (i + 1) ⟨setD s.t o.dst .und,s.h⟩).map fun p=>(⟨.und,false,[],[]⟩ :: p.1,p.2)
   | some true=>if goCall o then
     match callOf s.t o with
     | some (f,args)=>match K f args s.h with
      | some (r,h')=>(chainRun E K ops k (i + 1) ⟨setD s.t o.dst r,h'⟩).map fun p=>(⟨r,true,diffs s.h h' 0,[]⟩ :: p.1,p.2)
      | none=>none
     | none=>none
    else match evOp E o.op o.type s.t s.h s.h.length with
     | some (v,U)=>if noNew o.op && U.isEmpty then
       (chainRun E K ops k (i + 1) ⟨setD s.t o.dst v,s.h⟩).map fun p=>(⟨v,false,[],if movesB o.op then [] else o.op.operands.toList.flatMap (idsOf s.t)⟩ :: p.1,p.2)
      else if U.all (fun p=>decide (p.1 ≤ s.h.length)) then
       (chainRun E K ops k (i + 1) ⟨setD s.t o.dst v,app s.h U⟩).map fun p=>(⟨v,true,U.map (·.1),[]⟩ :: p.1,p.2)
      else none
     | none=>none
theorem chainRun_sound {P:Program} {E:Env} (T:TabOK P E) {K:FuncId → List AV → List ABlk → Option (AV × List ABlk)} (hK:∀ f args h r h',K f args h=some (r,h') → Good P f args h r h') {ops:Array Oper}:∀ (k i:Nat) (s:St) (rs:List CRec) (s':St),chainRun E K ops k i s=some (rs,s') → rs.length=k ∧ ∃ hs,TextRun P ops i s rs hs s'
 | 0,i,s,rs,s',h=>by
  simp only [chainRun,Option.some.injEq,Prod.mk.injEq] at h
  obtain ⟨rfl,rfl⟩:=h
  exact ⟨rfl,[],.nil i s⟩
 | k + 1,i,s,rs,s',h=>by
  have step:∀ {o:Oper} {r:CRec} {h1:List ABlk},ops[i]?=some o → StepRec P ops i s r h1 → (chainRun E K ops k (i + 1) ⟨setD s.t o.dst r.v,h1⟩).map (fun p=>(r :: p.1,p.2))=some (rs,s') → rs.length=k + 1 ∧ ∃ hs,TextRun P ops i s rs hs s':=fun {o r h1} ho hr he=>by
   obtain ⟨⟨rs1,s1⟩,h2,h3⟩:=Option.map_eq_some_iff.1 he
   cases h3
   obtain ⟨g1,hs,g2⟩:=chainRun_sound T hK k (i + 1) _ rs1 s1 h2
   refine ⟨by simp [g1],h1 :: hs,.cons hr ?_⟩
   have e:dstOf ops i=o.dst:=by simp [dstOf,ho]
   rw [e];exact g2
  unfold chainRun at h
  split at h
  ·cases h
  ·rename_i o ho
   split at h
   ·cases h
   ·rename_i hw
    exact step ho (.skip ho hw) h
   ·rename_i hw
    split at h
    ·split at h
     ·rename_i f args hc
      split at h
      ·rename_i r h' hk
       exact step ho (.call _ ho hw hc (hK _ _ _ _ _ hk) fun id hid=>diffs_spec s.h h' 0 id (by rw [Nat.zero_add];exact hid)) h
      ·cases h
     ·cases h
    ·split at h
     ·rename_i v U hv
      split at h
      ·rename_i hc
       simp only [Bool.and_eq_true,List.isEmpty_iff] at hc
       obtain ⟨hn,rfl⟩:=hc
       exact step ho (.look T ho hw hn hv) h
      ·split at h
       ·rename_i hU
        exact step ho (.turn T ho hw hv hU) h
       ·cases h
     ·cases h
end Go.Ev
namespace Go.Ev
open Go.RowKit
variable [Globs]
def envOf (P:Program):Env where
 und:=P.underlying
 size:=fun t=>(P.info? t).map (·.size)
 bytes:=fun t=>(P.info? t).map (·.bytes)
 zero:=fun t=>match P.info? t with
  | some i=>match i.zero with
   | some v=>litAll v.cells.toList
   | none=>none
  | none=>none
 zval:=fun t=>match P.info? t with
  | some i=>match i.zero with
   | some v=>litA v
   | none=>none
  | none=>none
 cmp:=fun t=>!P.stoodInHeld t && !P.eqGuardType P.depth t
theorem envOf_ok {P:Program} (h:P.follows .mixedOrders=true):TabOK P (envOf P) where
 und:=fun _ _ h=>h
 size:=fun t n h=>by
  obtain ⟨i,hi,rfl⟩:=Option.map_eq_some_iff.1 h
  exact ⟨i,hi,rfl⟩
 bytes:=fun t n h=>by
  obtain ⟨i,hi,rfl⟩:=Option.map_eq_some_iff.1 h
  exact ⟨i,hi,rfl⟩
 zero:=fun t z h=>by
  simp only [envOf] at h
  split at h
  ·rename_i i hi
   split at h
   ·rename_i v hv;exact ⟨i,v,hi,hv,h⟩
   ·cases h
  ·cases h
 zval:=fun t z h=>by
  simp only [envOf] at h
  split at h
  ·rename_i i hi
   split at h
   ·rename_i v hv;exact ⟨i,v,hi,hv,h⟩
   ·cases h
  ·cases h
 cmp:=fun t h=>by
  simp only [envOf,Bool.and_eq_true,Bool.not_eq_true'] at h;exact h
 mixed:=h
def envV (P:Program) (vec:TypeId → Bool):Env:={ envOf P with vec:=vec }
theorem envV_ok {P:Program} {vec:TypeId → Bool} (h:P.follows .mixedOrders=true):TabOK P (envV P vec):=
 let T:=envOf_ok h
 ⟨T.und,T.size,T.bytes,T.zero,T.zval,T.cmp,T.mixed⟩
theorem OpOut.sim {N:Nat → Prop} {h:List ABlk} {ρ:Nat → Pl} {w:World} {v:AV} {h':List ABlk} {x:Value} {w':World}:OpOut N h ρ w v h' x w' ↔ Sim ⟨N,h,ρ,w⟩ ⟨[v],h'⟩ ⟨#[x],[]⟩ w':=by
 constructor
 ·rintro ⟨⟨N',ρ',H,hr,K,hs⟩⟩
  refine ⟨N',ρ',H,⟨rfl,fun i u hu=>?_,H.glob⟩,?_,K,rfl⟩
  ·match i,hu with
   | 0,hu=>simp at hu;subst hu;exact ⟨x,rfl,hr⟩
   | i + 1,hu=>simp at hu
  ·simp only [AV.sc.scAll,Bool.and_true];exact hs
 ·rintro ⟨N',ρ',S⟩
  obtain ⟨y,hy,hr⟩:=S.slots.rep 0 v rfl
  have:y=x:=by simpa using hy.symm
  subst this
  have hs:=S.sc
  simp only [AV.sc.scAll,Bool.and_true] at hs
  exact ⟨⟨N',ρ',S.heap,hr,S.kept,hs⟩⟩
theorem Good.turn {P:Program} {f:FuncId} {args:List AV} {h h1 h2:List ABlk} {r r2:AV} (G:Good P f args h r h1) (ht:∀ (X:Ent) (a:Act) (w:World),X.h=h → Sim X ⟨[r],h1⟩ a w → Sim X ⟨[r2],h2⟩ a w):Good P f args h r2 h2:=
 fun w N ρ vs H hsc hl hrep=>(G w N ρ vs H hsc hl hrep).mono fun _ _ ho=>OpOut.sim.2 (ht _ _ _ rfl (OpOut.sim.1 ho))
def inB (q:Nat → Bool):ABlk → Bool
 | k=>AV.sc.scAll q k.avs
def stays (m:Nat) (r:AV) (h:List ABlk):Bool:=let q:=born (h.take m);r.sc q && (h.take m).all (inB q)
theorem scrub_id {q:Nat → Bool} {v:AV} (h:v.sc q=true):scrub q v=v:=by simp [scrub,h]
theorem scrubB_id {q:Nat → Bool} {k:ABlk} (h:inB q k=true):scrubB q k=k:=by
 cases k with
 | box cs =>
  simp only [scrubB]
  congr 1
  have:∀ l:List AV,(∀ x,x ∈ l → x.sc q=true) → l.map (scrub q)=l:=fun l=>by
   induction l with
   | nil=>intro _;rfl
   | cons x l ih=>intro hl;simp only [List.map_cons];rw [scrub_id (hl x (by simp)),ih fun y hy=>hl y (by simp [hy])]
  exact this cs (scAll_iff.1 h)
 | mp es c=>simp only [scrubB,mapE_id fun v hv=>scrub_id (scAll_iff.1 (show AV.sc.scAll q (ABlk.mp es c).avs=true from h) v hv)]
 | vec sz e xs=>simp only [scrubB,mapV_id fun v hv=>scrub_id (scAll_iff.1 (show AV.sc.scAll q (ABlk.vec sz e xs).avs=true from h) v hv)]
 | _=>rfl
theorem Good.trim {P:Program} {f:FuncId} {args:List AV} {h h1:List ABlk} {r:AV} (G:Good P f args h r h1) {m:Nat} (hm:h.length ≤ m) (hs:stays m r h1=true):Good P f args h r (h1.take m):=by
 simp only [stays,Bool.and_eq_true] at hs
 have e1:gc 1 m ⟨[r],h1⟩=⟨[r],h1.take m⟩:=by
  simp only [gc,List.take_succ_cons,List.take_zero,List.map_cons,List.map_nil,List.length_singleton,Nat.sub_self,List.replicate_zero,List.append_nil]
  rw [scrub_id hs.1]
  congr 1
  have:∀ l:List ABlk,(∀ x,x ∈ l → inB (born (h1.take m)) x=true) → l.map (scrubB (born (h1.take m)))=l:=fun l=>by
   induction l with
   | nil=>intro _;rfl
   | cons x l ih=>intro hl;simp only [List.map_cons];rw [scrubB_id (hl x (by simp)),ih fun y hy=>hl y (by simp [hy])]
  exact this _ (List.all_eq_true.1 hs.2)
 exact G.turn fun X a w hX h2=>by rw [← e1];exact h2.gc 1 m (by rw [hX];exact hm)
def freezeAll:Nat → St → St
 | 0,s=>s
 | n + 1,s=>freeze n (freezeAll n s)
theorem Sim.freezeAll {X:Ent} {a:Act} {w:World}:∀ (n:Nat) {s:St},Sim X s a w → Sim X (freezeAll n s) a w
 | 0,_,h=>h
 | n + 1,_,h=>(Sim.freezeAll n h).freeze n
def freezeIds:List Nat → St → St
 | [],s=>s
 | id :: ids,s=>freezeIds ids (freeze id s)
theorem RunOps.freezeIds {P:Program} {n:Nat} {ops:Array Oper} {l:List Nat} {Q:Exit → St → Prop}:∀ (ids:List Nat) {s:St},RunOps P n ops l Q (freezeIds ids s) → RunOps P n ops l Q s
 | [],_,h=>h
 | id :: ids,_,h=>RunOps.freeze id (RunOps.freezeIds ids h)
def trunc (id k:Nat) (s:St):St:=match s.h[id]? with
 | some (.rows sz e xs)=>⟨s.t,s.h.set id (.rows sz e (xs.take k))⟩
 | _=>s
theorem Sim.trunc {X:Ent} {s:St} {a:Act} {w:World} (id k:Nat) (hs:Sim X s a w):Sim X (trunc id k s) a w:=by
 unfold Ev.trunc
 split
 ·rename_i sz e xs hb
  obtain ⟨N,ρ,S⟩:=hs
  have H:=S.heap
  have hid:id < s.h.length:=(List.getElem?_eq_some_iff.1 hb).1
  have hblk:BlkOK w N ρ (ρ id) (.rows sz e (xs.take k)):=by
   obtain ⟨h0,h1,h2⟩:=H.own id _ hb
   refine ⟨h0,fun x hx=>h1 x (List.mem_of_mem_take hx),h2.imp (fun ⟨z,z'⟩=>⟨z,by rw [z'];simp⟩) ?_⟩
   rintro ⟨hp,vs,t,fr,hh,hf,hsz,hl,hc⟩
   refine ⟨hp,vs,t,fr,hh,hf,hsz,?_,fun j i hj hi=>?_⟩
   ·have:(xs.take k).length * sz ≤ xs.length * sz:=Nat.mul_le_mul_right sz (by simp;omega)
    omega
   ·have hj':j < xs.length:=by simp at hj;omega
    have e1:(xs.take k)[j]=xs[j]:=by simp
    obtain ⟨x,hx,hr⟩:=hc j i hj' (by rw [← e1];exact hi)
    exact ⟨x,hx,by simpa [e1] using hr⟩
  have hown:∀ i,owns (s.h.set id (.rows sz e (xs.take k))) ρ i → owns s.h ρ i:=fun i ⟨⟨k',hk',h1⟩,hp⟩=>by
   by_cases e1:i=id
   ·subst e1;exact ⟨⟨_,hb,by simp,by simp⟩,hp⟩
   ·rw [List.getElem?_set_ne (Ne.symm e1)] at hk';exact ⟨⟨k',hk',h1⟩,hp⟩
  have hborn:∀ i,born s.h i=true → born (s.h.set id (.rows sz e (xs.take k))) i=true:=fun i hi=>by
   by_cases e1:i=id
   ·subst e1;simp [born,hid]
   ·unfold born at *;rw [List.getElem?_set_ne (Ne.symm e1)];exact hi
  refine ⟨N,ρ,⟨H.lt,fun i j hi hj=>H.inj i j (hown i hi) (hown j hj),fun i hi=>H.apart i (hown i hi),fun i k' hk'=>?_,fun i k' hk'=>?_,H.glob⟩,S.slots,AV.sc_mono.all hborn _ S.sc,?_,S.defers⟩
  ·by_cases e1:i=id
   ·subst e1
    rw [List.getElem?_set_self hid] at hk';cases hk';exact hblk
   ·rw [List.getElem?_set_ne (Ne.symm e1)] at hk';exact H.own i k' hk'
  ·by_cases e1:i=id
   ·subst e1
    rw [List.getElem?_set_self hid] at hk';cases hk';rfl
   ·rw [List.getElem?_set_ne (Ne.symm e1)] at hk';exact AV.sc_mono.all hborn _ (H.scope i k' hk')
  ·have K:=S.kept
   exact ⟨K.os,K.tape,K.output,K.size,fun i hi=>⟨hborn i (K.rho i hi).1,(K.rho i hi).2⟩,K.stay,K.from_,K.rest,fun i hi=>K.new i (hown i hi)⟩
 ·exact hs
theorem RunOps.trunc {P:Program} {n:Nat} {ops:Array Oper} {l:List Nat} {Q:Exit → St → Prop} {s:St} (id k:Nat) (h:RunOps P n ops l Q (trunc id k s)):RunOps P n ops l Q s:=
 fun X a w hX hs=>h X a w hX (hs.trunc id k)
theorem Run.trunc {P:Program} {n:Nat} {c:Code} {Q:Exit → St → Prop} {s:St} (id k:Nat) (h:Run P n c Q (Ev.trunc id k s)):Run P n c Q s:=
 Run.from (fun _ _ _ _ hs=>hs.trunc id k) h
def truncOf (op:Op) (t:List AV) (h:List ABlk):Option (Nat × Nat):=match op with
 | .call { callee:=.builtin .append,args,argTypes:=_ }=>match args.toList with
  | x :: _=>match opd t x with
   | some (.sl id off len)=>match h[id]? with
    | some (.rows _ _ xs)=>if off + len < xs.length then some (id,off + len) else none
    | _=>none
   | _=>none
  | _=>none
 | _=>none
theorem trunc_t (id k:Nat) (s:St):(trunc id k s).t=s.t:=by unfold trunc;split <;> rfl
def execOps (E:Env) (K:FuncId → List AV → List ABlk → Option (AV × List ABlk)) (ops:Array Oper):List Nat → St → Option St
 | [],s=>some s
 | i :: l,s=>match ops[i]? with
  | none=>execOps E K ops l s
  | some o=>match wantedA ops s.t o with
   | some false=>execOps E K ops l ⟨setD s.t o.dst .und,s.h⟩
   | some true =>
    if goCall o then
     match callOf s.t o with
     | some (f,args)=>match K f args s.h with
      | some (r,h')=>execOps E K ops l ⟨setD s.t o.dst r,h'⟩
      | none=>none
     | none=>none
    else
     match evOp E o.op o.type s.t s.h s.h.length with
     | some (v,U)=>execOps E K ops l ⟨setD s.t o.dst v,app s.h U⟩
     | none=>if closes o.op then
       let s1:=freezeIds (o.op.operands.toList.flatMap (idsIn s.t)) s
       match evOp E o.op o.type s1.t s1.h s1.h.length with
       | some (v,U)=>match wantedA ops s1.t o with
        | some true=>execOps E K ops l ⟨setD s1.t o.dst v,app s1.h U⟩
        | _=>none
       | none=>none
      else match truncOf o.op s.t s.h with
       | some (id,k)=>let s1:=trunc id k s
        match evOp E o.op o.type s1.t s1.h s1.h.length with
        | some (v,U)=>execOps E K ops l ⟨setD s1.t o.dst v,app s1.h U⟩
        | none=>none
       | none=>none
   | none=>none
def CallOK (P:Program) (K:FuncId → List AV → List ABlk → Option (AV × List ABlk)):Prop:=∀ f args h r h',K f args h=some (r,h') → Good P f args h r h'
theorem execOps_sound {P:Program} {E:Env} (T:TabOK P E) {K:FuncId → List AV → List ABlk → Option (AV × List ABlk)} (hK:CallOK P K) {n:Nat} {ops:Array Oper} {Q:Exit → St → Prop}:∀ (l:List Nat) (s s':St),execOps E K ops l s=some s' → Q .normal s' → RunOps P n ops l Q s
 | [],s,s',h,hq=>by
  simp only [execOps,Option.some.injEq] at h;subst h
  exact RunOps.nil hq
 | i :: l,s,s',h,hq=>by
  unfold execOps at h
  split at h
  ·rename_i hi
   exact RunOps.none hi (execOps_sound T hK l s s' h hq)
  ·rename_i o hi
   split at h
   ·rename_i hw
    exact RunOps.skip hi hw (execOps_sound T hK l _ s' h hq)
   ·rename_i hw
    split at h
    ·split at h
     ·rename_i f us hc
      split at h
      ·rename_i r h1 hk
       obtain ⟨c,fo,fv,args,caps,q1,q2,q3,q4,q5,rfl⟩:=callOf_spec hc
       exact RunOps.call hi hw q1 q2 q3 q5 q4 (hK _ _ _ _ _ hk) (execOps_sound T hK l _ s' h hq)
      ·cases h
     ·cases h
    ·split at h
     ·rename_i v U hv
      exact RunOps.op T hi hw hv (execOps_sound T hK l _ s' h hq)
     ·split at h
      ·simp only at h
       split at h
       ·rename_i v U hv
        split at h
        ·rename_i hw1
         exact RunOps.freezeIds _ (RunOps.op T hi hw1 hv (execOps_sound T hK l _ s' h hq))
        ·cases h
       ·cases h
      ·split at h
       ·rename_i id k htr
        simp only at h
        split at h
        ·rename_i v U hv
         exact RunOps.trunc id k (RunOps.op T hi (by rw [trunc_t];exact hw) hv (execOps_sound T hK l _ s' h hq))
        ·cases h
       ·cases h
   ·cases h
def ended (m:Nat) (r:AV) (h:List ABlk):AV × List ABlk:=if stays m r h then (r,h.take m) else (r,h)
def bodyOf (E:Env) (X:Code → St → Option (Exit × St)) (F:FuncId → Option Func) (L:FuncId → List AV → List ABlk → Option (AV × List ABlk)) (f:FuncId) (args:List AV) (h:List ABlk):Option (AV × List ABlk):=
 match L f args h with
 | some r=>some r
 | none=>match F f with
  | none=>none
  | some fn=>match fn.body with
   | none=>none
   | some c=>if fn.name == "runtime.NumGoroutine" then none else
    match X c ⟨args ++ List.replicate (fn.ntmps - args.length) .und,h⟩ with
    | some (.normal,s) | some (.ret,s)=>(resA E fn.results.toList s).map fun r=>ended h.length r s.h
    | _=>none
def freezeFrom (m:Nat):Nat → St → St
 | 0,s=>s
 | n + 1,s=>freeze (m + n) (freezeFrom m n s)
theorem Sim.freezeFrom {X:Ent} {a:Act} {w:World} (m:Nat):∀ (n:Nat) {s:St},Sim X s a w → Sim X (freezeFrom m n s) a w
 | 0,_,h=>h
 | n + 1,_,h=>(Sim.freezeFrom m n h).freeze (m + n)
def shut (K:FuncId → List AV → List ABlk → Option (AV × List ABlk)) (f:FuncId) (args:List AV) (h:List ABlk):Option AV:=match K f args h with
 | some (r,h2)=>match freezeFrom h.length (h2.length - h.length) ⟨[r],h2⟩ with
  | ⟨[r'],h'⟩=>if stays h.length r' h' && sameH (h'.take h.length) h then some r' else none
  | _=>none
 | none=>none
def tailTry (E:Env) (K:FuncId → List AV → List ABlk → Option (AV × List ABlk)) (ops:Array Oper) (s:St):Option St:=match tailN ops with
 | some k=>match drawnHead E (shut K) ops k s with
  | some s1=>execOps E K ops (List.range' k (ops.size - k)) s1
  | none=>none
 | none=>none
def chainTry (E:Env) (K:FuncId → List AV → List ABlk → Option (AV × List ABlk)) (ops:Array Oper) (s:St):Option St:=match chainRun E K ops ops.size 0 s with
 | some (rs,s1)=>if chainOK ops rs then some s1 else none
 | none=>none
def otherTry (E:Env) (K:FuncId → List AV → List ABlk → Option (AV × List ABlk)) (ops:Array Oper) (s:St):Option St:=match tailTry E K ops s with
 | some s1=>some s1
 | none=>chainTry E K ops s
def exec (E:Env) (F:FuncId → Option Func) (L:FuncId → List AV → List ABlk → Option (AV × List ABlk)):Nat → Code → St → Option (Exit × St)
 | 0,_,_=>none
 | n + 1,c,s=>match c with
  | .skip=>some (.normal,s)
  | .label _=>some (.normal,s)
  | .exit id=>some (.exit id,s)
  | .goto l=>some (.goto l,s)
  | .ret=>some (.ret,s)
  | .seq x y=>match exec E F L n x s with
   | some (.normal,s1)=>exec E F L n y s1
   | r=>r
  | .block id c=>match exec E F L n c s with
   | some (.exit id',s1)=>if id'=id then some (.normal,s1) else some (.exit id',s1)
   | r=>r
  | .cond c x y=>match opd s.t c with
   | some (.c (.bool b))=>exec E F L n (if b then x else y) s
   | _=>none
  | .loop c=>match exec E F L n c s with
   | some (.normal,s1)=>exec E F L n (.loop c) s1
   | r=>r
  | .region _ ops false=>match execOps E (bodyOf E (exec E F L n) F L) ops (List.range ops.size) s with
   | some s1=>some (.normal,s1)
   | none=>none
  | .region _ ops true=>if slotsOK ops then
    match drawn E (shut (bodyOf E (exec E F L n) F L)) ops s with
    | some s1=>some (.normal,s1)
    | none=>(otherTry E (bodyOf E (exec E F L n) F L) ops s).map fun s1=>(.normal,s1)
   else none
  | _=>none
theorem bodyOf_sound {P:Program} {E:Env} (T:TabOK P E) {X:Code → St → Option (Exit × St)} {F:FuncId → Option Func} {L:FuncId → List AV → List ABlk → Option (AV × List ABlk)} (hF:∀ f fn,F f=some fn → P.funcs[f]?=some fn) (hL:CallOK P L)
  (hX:∀ c s e s',X c s=some (e,s') → ∀ n,Run P n c (fun e1 s1=>e1=e ∧ s1=s') s):CallOK P (bodyOf E X F L):=by
 intro f args h r h' hb
 unfold bodyOf at hb
 split at hb
 ·rename_i r0 h0;cases hb;exact hL _ _ _ _ _ h0
 ·split at hb
  ·cases hb
  ·rename_i fn hfn
   split at hb
   ·cases hb
   ·rename_i c hc
    split at hb
    ·cases hb
    ·rename_i hnm
     have fin:∀ e s,(e = .normal ∨ e = .ret) → X c ⟨args ++ List.replicate (fn.ntmps - args.length) .und,h⟩=some (e,s) → (resA E fn.results.toList s).map (fun r=>ended h.length r s.h)=some (r,h') → Good P f args h r h':=fun e s he hx hb=>by
      obtain ⟨r1,hr1,hend⟩:=Option.map_eq_some_iff.1 hb
      have G:Good P f args h r1 s.h:=Good.of_run T (hF f fn hfn) hc (by simpa using hnm) ((hX _ _ _ _ hx h.length).mono fun e1 s1 ⟨h1,h2⟩=>by
       subst h1 h2;exact ⟨he,hr1,rfl⟩)
      unfold ended at hend
      split at hend
      ·rename_i hst
       cases hend
       exact G.trim (Nat.le_refl _) hst
      ·cases hend;exact G
     split at hb
     ·rename_i s hx;exact fin _ s (.inl rfl) hx hb
     ·rename_i s hx;exact fin _ s (.inr rfl) hx hb
     ·cases hb
theorem shut_sound {P:Program} {K:FuncId → List AV → List ABlk → Option (AV × List ABlk)} (hK:CallOK P K):Oracle P (shut K):=by
 intro f args h r hs
 unfold shut at hs
 split at hs
 ·rename_i r0 h0 hk
  split at hs
  ·rename_i r1 h' he
   split at hs
   ·rename_i hc
    simp only [Bool.and_eq_true] at hc
    simp only [Option.some.injEq] at hs
    subst hs
    have G1:Good P f args h r1 h':=(hK _ _ _ _ _ hk).turn fun X a w _ hs=>by rw [← he];exact hs.freezeFrom _ _
    have G2:=G1.trim (Nat.le_refl _) hc.1
    rw [sameH_eq _ _ hc.2] at G2
    exact G2
   ·cases hs
  ·cases hs
 ·cases hs
theorem otherTry_sound {P:Program} {E:Env} (T:TabOK P E) {K:FuncId → List AV → List ABlk → Option (AV × List ABlk)} (hK:CallOK P K) {ops:Array Oper} {s s':St} {id n:Nat} (hsl:slotsOK ops=true) (h:otherTry E K ops s=some s'):Run P n (.region id ops true) (fun e1 s1=>e1 = .normal ∧ s1=s') s:=by
 unfold otherTry at h
 split at h
 ·rename_i s1 h1
  cases h
  unfold tailTry at h1
  split at h1
  ·rename_i k hk
   split at h1
   ·rename_i s2 hs2
    exact Run.drawnTail T (shut_sound hK) hsl (tailN_ok hk) hs2 (execOps_sound T hK _ _ _ h1 ⟨rfl,rfl⟩)
   ·cases h1
  ·cases h1
 ·unfold chainTry at h
  split at h
  ·rename_i rs s1 hc
   split at h
   ·rename_i hch
    cases h
    obtain ⟨g1,hs2,g2⟩:=chainRun_sound T hK _ _ _ _ _ hc
    exact Run.chainT T hsl hch g1 g2 ⟨rfl,rfl⟩
   ·cases h
  ·cases h
theorem exec_sound {P:Program} {E:Env} (T:TabOK P E) {F:FuncId → Option Func} {L:FuncId → List AV → List ABlk → Option (AV × List ABlk)} (hF:∀ f fn,F f=some fn → P.funcs[f]?=some fn) (hL:CallOK P L) :
  ∀ (fuel:Nat) (c:Code) (s:St) (e:Exit) (s':St),exec E F L fuel c s=some (e,s') → ∀ n,Run P n c (fun e1 s1=>e1=e ∧ s1=s') s:=by
 intro fuel
 induction fuel using Nat.strongRecOn with
 | _ fuel IH =>
 cases fuel with
 | zero=>intro c s e s' h n;simp [exec] at h
 | succ fuel =>
  intro c s e s' h n
  have ih:=IH fuel (by omega)
  have hK:CallOK P (bodyOf E (exec E F L fuel) F L):=bodyOf_sound T hF hL ih
  cases c with
  | skip=>simp only [exec,Option.some.injEq,Prod.mk.injEq] at h;exact Run.skip ⟨h.1,h.2⟩
  | label l=>simp only [exec,Option.some.injEq,Prod.mk.injEq] at h;exact Run.label ⟨h.1,h.2⟩
  | exit id=>simp only [exec,Option.some.injEq,Prod.mk.injEq] at h;exact Run.exit ⟨h.1,h.2⟩
  | goto id=>simp only [exec,Option.some.injEq,Prod.mk.injEq] at h;exact Run.goto ⟨h.1,h.2⟩
  | ret=>simp only [exec,Option.some.injEq,Prod.mk.injEq] at h;exact Run.ret ⟨h.1,h.2⟩
  | seq x y =>
   simp only [exec] at h
   refine Run.seq ?_
   cases hx:exec E F L fuel x s with
   | none=>rw [hx] at h;cases h
   | some p =>
    obtain ⟨e1,s1⟩:=p
    rw [hx] at h
    refine (ih _ _ _ _ hx n).mono ?_
    rintro e9 s9 ⟨h8,h9⟩
    rw [h8,h9]
    cases e1 <;> simp only [Option.some.injEq,Prod.mk.injEq] at h <;> first | exact ⟨h.1,h.2⟩ | exact ih _ _ _ _ h n
  | block id c =>
   simp only [exec] at h
   refine Run.block ?_
   cases hx:exec E F L fuel c s with
   | none=>rw [hx] at h;cases h
   | some p =>
    obtain ⟨e1,s1⟩:=p
    rw [hx] at h
    refine (ih _ _ _ _ hx n).mono ?_
    rintro e9 s9 ⟨h8,h9⟩
    rw [h8,h9]
    cases e1 with
    | exit id' =>
     simp only at h
     simp only [inBlockS]
     split at h <;> rename_i hid <;> simp only [Option.some.injEq,Prod.mk.injEq] at h
     ·rw [if_pos hid];exact ⟨h.1,h.2⟩
     ·rw [if_neg hid];exact ⟨h.1,h.2⟩
    | _=>simp only [Option.some.injEq,Prod.mk.injEq] at h;exact ⟨h.1,h.2⟩
  | cond c x y =>
   simp only [exec] at h
   split at h
   ·rename_i b hb;exact Run.cond hb (ih _ _ _ _ h n)
   ·cases h
  | loop c =>
   refine Run.loop (fun j s1=>j ≤ fuel + 1 ∧ exec E F L j (.loop c) s1=some (e,s')) (fuel + 1) ⟨Nat.le_refl _,h⟩ ?_
   rintro j s1 ⟨hj,hx⟩
   cases j with
   | zero=>simp [exec] at hx
   | succ j =>
    simp only [exec] at hx
    cases hy:exec E F L j c s1 with
    | none=>rw [hy] at hx;cases hx
    | some p =>
     obtain ⟨e1,s2⟩:=p
     rw [hy] at hx
     refine (IH j (by omega) _ _ _ _ hy n).mono ?_
     rintro e9 s9 ⟨h8,h9⟩
     rw [h8,h9]
     cases e1 with
     | normal=>exact ⟨j,by omega,by omega,hx⟩
     | _=>simp only [Option.some.injEq,Prod.mk.injEq] at hx;exact ⟨hx.1,hx.2⟩
  | region id ops draw =>
   cases draw with
   | false =>
    simp only [exec] at h
    split at h
    ·rename_i s1 hs
     cases h
     exact Run.region (execOps_sound T hK _ _ _ hs ⟨rfl,rfl⟩)
    ·cases h
   | true =>
    simp only [exec] at h
    split at h
    ·rename_i hsl
     split at h
     ·rename_i s1 hs
      cases h
      exact Run.drawn T (shut_sound hK) hsl hs ⟨rfl,rfl⟩
     ·obtain ⟨s1,hs1,he⟩:=Option.map_eq_some_iff.1 h
      cases he
      exact otherTry_sound T hK hsl hs1
    ·cases h
  | rangeFunc _ _ _ _=>simp [exec] at h
  | scope _=>simp [exec] at h
  | refuse _=>simp [exec] at h
end Go.Ev
namespace Go.Ev
open Go.RowKit
variable [Globs]
theorem Good.ext {P:Program} {f:FuncId} {fn:Func} {e:Array Value → Sem Value} (hf:P.funcs[f]?=some fn) (hname:(fn.name == "runtime.NumGoroutine")=false) (hb:fn.body.isNone=true) (hn:Extern.findNext fn=none) (he:Extern.find fn=some e)
  {args:List AV} {h:List ABlk} {r:AV} (hr:r.cl=true) (hrun:∀ (w:World) (N:Nat → Prop) (ρ:Nat → Pl) (vs:List Value),args.length=vs.length → (∀ (i:Nat) (h1:i < args.length) (h2:i < vs.length),RepA w N ρ args[i] vs[i]) → ∃ v,(e vs.toArray).run P w = .ok v w ∧ RepA w N ρ r v):Good P f args h r h:=by
 intro w N ρ vs H hsc hl hrep
 obtain ⟨v,hv,hrv⟩:=hrun w N ρ vs hl hrep
 exact .inr ⟨v,w,by rw [run_callFunc_extern hf hname hb hn he,hv];rfl,OpOut.quiet H hrv (AV.cl_sc _ hr _)⟩
theorem two_str {w:World} {N:Nat → Prop} {ρ:Nat → Pl} {a b:AV} {vs:List Value} (hl:[a,b].length=vs.length) (hr:∀ (i:Nat) (h1:i < [a,b].length) (h2:i < vs.length),RepA w N ρ [a,b][i] vs[i]):∃ x y,vs=[x,y] ∧ RepA w N ρ a x ∧ RepA w N ρ b y:=by
 match vs,hl with
 | [x,y],_=>exact ⟨x,y,rfl,hr 0 (by simp) (by simp),hr 1 (by simp) (by simp)⟩
def cmpStr (a b:ByteArray):AV:=.c (.int .i64 (Extern.BytealgCompare.cmp a b))
theorem compare_run (P:Program) (a b:ByteArray) (w:World) (N:Nat → Prop) (ρ:Nat → Pl) (vs:List Value) (hl:[AV.c (.str a),AV.c (.str b)].length=vs.length) (hr:∀ (i:Nat) (h1:i < [AV.c (.str a),AV.c (.str b)].length) (h2:i < vs.length),RepA w N ρ [AV.c (.str a),AV.c (.str b)][i] vs[i]) :
  ∃ v,(Extern.BytealgCompare.compare vs.toArray).run P w = .ok v w ∧ RepA w N ρ (cmpStr a b) v:=by
 obtain ⟨x,y,rfl,h1,h2⟩:=two_str hl hr
 cases h1.str_eq;cases h2.str_eq
 exact ⟨.int .i64 (Extern.BytealgCompare.cmp a b),rfl,.c (.int _ _)⟩
def idxByte (a:ByteArray) (c:Int):AV:=match (List.range a.size).find? fun i=>a[i]! == c.toNat.toUInt8 with
 | some i=>.c (.int .i64 i)
 | none=>.c (.int .i64 (-1))
theorem idxByte_run (P:Program) (a:ByteArray) (c:Int) (w:World) (N:Nat → Prop) (ρ:Nat → Pl) (vs:List Value) (hl:[AV.c (.str a),AV.c (.int .u8 c)].length=vs.length) (hr:∀ (i:Nat) (h1:i < [AV.c (.str a),AV.c (.int .u8 c)].length) (h2:i < vs.length),RepA w N ρ [AV.c (.str a),AV.c (.int .u8 c)][i] vs[i]) :
  ∃ v,(Extern.BytealgIndexByte.indexByte vs.toArray).run P w = .ok v w ∧ RepA w N ρ (idxByte a c) v:=by
 obtain ⟨x,y,rfl,h1,h2⟩:=two_str hl hr
 cases h1.str_eq;cases h2.int_eq
 unfold idxByte
 have e:(Extern.BytealgIndexByte.indexByte [Value.string a,Value.int .u8 c].toArray).run P w=(match (List.range a.size).find? fun i=>a[i]! == c.toNat.toUInt8 with
  | some i=>(pure (goInt i):Sem Value)
  | none=>pure (goInt (-1))).run P w:=rfl
 rw [e]
 cases (List.range a.size).find? fun i=>a[i]! == c.toNat.toUInt8 with
 | some i=>exact ⟨_,rfl,.c (.int _ _)⟩
 | none=>exact ⟨_,rfl,.c (.int _ _)⟩
end Go.Ev
namespace Go.Ev
open Go.RowKit
variable [Globs]
def partsG (ρ:Operand → Option AV):List (Nat × Operand) → Option (List (Nat × AV))
 | []=>some []
 | (i,x) :: r=>match ρ x,partsG ρ r with
  | some v,some l=>some ((i,v) :: l)
  | _,_=>none
def argsG (ρ:Operand → Option AV):List Operand → Option (List AV)
 | []=>some []
 | x :: r=>match ρ x,argsG ρ r with
  | some v,some l=>some (v :: l)
  | _,_=>none
def optG (ρ:Operand → Option AV):Option Operand → Option (Option AV)
 | none=>some none
 | some x=>(ρ x).map some
abbrev OV:=Option (AV × List (Nat × ABlk))
def oNil (E:Env) (ty:TypeId) (nw:Nat):OV:=match E.und ty with
 | some (.slice e)=>(E.size e).map fun sz=>(.sl nw 0 0,[(nw,mkRows E sz e [])])
 | _=>none
def oMove (x:Option AV):OV:=x.map (·,[])
def oPick (c a b:Option AV):OV:=match c,a,b with
 | some (.c (.bool p)),some a,some b=>some (mkPick p a b,[])
 | _,_,_=>none
def oAlloc (E:Env) (e:TypeId) (nw:Nat):OV:=(E.zero e).map fun z=>(.ptr nw 0,[(nw,.box (z.map .c))])
def oBox (x:Option AV) (nw:Nat):OV:=match x with
 | some v=>(cellsOf v).map fun cs=>(.ptr nw 0,[(nw,.box cs)])
 | none=>none
def oBuild (E:Env) (ty:TypeId) (l:Option (List (Nat × AV))):OV:=match E.und ty,E.zero ty,l with
 | some (.struct fs),some z,some l=>match placesA E fs.toList with
  | some pl=>(fillA (fun i=>pl[i]?) (z.map .c) l).map fun cs=>(.agg cs,[])
  | none=>none
 | some (.array _ e),some z,some l=>match E.size e with
  | some sz=>(fillA (fun i=>some (i * sz,sz)) (z.map .c) l).map fun cs=>(.agg cs,[])
  | none=>none
 | _,_,_=>none
def oBuildSlice (E:Env) (ty:TypeId) (len:Nat) (l:Option (List (Nat × AV))) (nw:Nat):OV:=match l with
 | some l=>aBuildSlice E ty len l nw
 | none=>none
def oLoad (E:Env) (ty:TypeId) (a:Option AV) (h:List ABlk):OV:=match a with
 | some a=>(aLoad E ty a h).map (·,[])
 | none=>none
def oStore (E:Env) (ty:TypeId) (a x:Option AV) (h:List ABlk):OV:=match a,x with
 | some a,some v=>(aStore E ty a v h).map fun u=>(.und,u)
 | _,_=>none
def oCheck (x:Option AV):OV:=match x with
 | some (.ptr id off)=>some (.ptr id off,[])
 | some (.rd cs)=>some (.rd cs,[])
 | some (.er id j i)=>some (.er id j i,[])
 | some (.c (.fn f caps))=>some (.c (.fn f caps),[])
 | some (.fn f caps)=>some (.fn f caps,[])
 | _=>none
def oBin (E:Env) (op:BinOp) (ty:TypeId) (x y:Option AV):OV:=match x,y with
 | some a,some b=>(aBin E op ty a b).map (·,[])
 | _,_=>none
def oUn (op:UnOp) (x:Option AV):OV:=match x with
 | some a=>(aUn op a).map (·,[])
 | none=>none
def oConv (E:Env) (src dst:TypeId) (x:Option AV) (h:List ABlk) (nw:Nat):OV:=match x with
 | some a=>aConv E src dst a h nw
 | none=>none
def oFunc (f:FuncId) (n:Nat) (l:Option (List AV)):OV:=if n=0 then l.map fun l=>(match closeAllC l with | some cs=>.c (.fn f cs) | none=>.fn f l,[]) else none
def oMake (E:Env) (ty:TypeId) (l c:Option AV) (nw:Nat):OV:=match l,c with
 | some l,some c=>aMakeSlice E ty l c nw
 | _,_=>none
def oSlice (E:Env) (ty:TypeId) (x:Option AV) (lo hi:Option (Option AV)) (h:List ABlk) (nw:Nat):OV:=match x,lo,hi with
 | some x,some lo,some hi=>sliceB E ty x lo hi h nw
 | _,_,_=>none
def oField (E:Env) (s:TypeId) (x:Option AV) (f:Nat):OV:=match x with
 | some a=>(aField E s a f).map (·,[])
 | none=>none
def oFieldV (E:Env) (s:TypeId) (x:Option AV) (f:Nat):OV:=match x with
 | some a=>(aFieldV E s a f).map (·,[])
 | none=>none
def oIdxAddr (E:Env) (ty:TypeId) (x ix:Option AV) (h:List ABlk):OV:=match x,ix with
 | some x,some i=>(aIndexAddr E ty x i h).map (·,[])
 | _,_=>none
def oIdx (E:Env) (ty:TypeId) (x ix:Option AV):OV:=match x,ix with
 | some x,some i=>(aIndex E ty x i).map (·,[])
 | _,_=>none
def oExtract (x:Option AV) (i:Nat):OV:=match x with
 | some (.tup vs)=>(vs[i]?).map (·,[])
 | _=>none
def oBuiltin (E:Env) (b:Builtin) (ts:List TypeId) (l:Option (List AV)) (h:List ABlk) (nw:Nat):OV:=match l with
 | some l=>match b with
  | .len=>match ts,l with
   | ty :: _,x :: _=>(aLenH E ty x h).map (·,[])
   | _,_=>none
  | .clear=>match ts,l with
   | ty :: _,x :: _=>aClear E ty x h
   | _,_=>none
  | .delete=>match ts,l with
   | ty :: _,x :: k :: _=>aDelete E ty x k h
   | _,_=>none
  | .append=>aAppendT E ts l h nw
  | .cap=>match ts,l with
   | t :: _,.c .nl :: _=>match E.und t with
    | some (.slice _)=>some (.c (.int .i64 0),[])
    | _=>none
   | _,_=>none
  | .copy=>match ts,l with
   | t :: u :: _,x :: y :: _=>aCopy E t u x y h
   | _,_=>none
  | .max=>(minMax true l).map (·,[])
  | .min=>(minMax false l).map (·,[])
  | _=>none
 | none=>none
def oAssign (E:Env) (ty:TypeId) (ρ:Operand → Option AV) (nw:Nat) (x:Operand):OV:=match x with
 | .const (.slice none 0 0)=>oNil E ty nw
 | x=>oMove (ρ x)
def oCall (E:Env) (ρ:Operand → Option AV) (h:List ABlk) (nw:Nat) (c:Call):OV:=match c.callee with
 | .builtin b=>oBuiltin E b c.argTypes.toList (argsG ρ c.args.toList) h nw
 | _=>none
def oMakeFunc (ρ:Operand → Option AV) (fn:Fn) (first captured:Array Operand):OV:=match fn with
 | .func f=>oFunc f first.size (argsG ρ captured.toList)
 | _=>none
def oSlice0 (E:Env) (ty:TypeId) (x hi mx:Option AV):OV:=match x,hi,mx with
 | some x,some (.c (.int _ 0)),some (.c (.int _ 0))=>(aSlice0 E ty x).map (·,[])
 | _,_,_=>none
def oSliceOp (E:Env) (ty:TypeId) (ρ:Operand → Option AV) (h:List ABlk) (nw:Nat) (x:Operand) (lo hi mx:Option Operand):OV:=match mx with
 | none=>oSlice E ty (ρ x) (optG ρ lo) (optG ρ hi) h nw
 | some m=>match lo,hi with
  | none,some hh=>oSlice0 E ty (ρ x) (ρ hh) (ρ m)
  | _,_=>none
def oLookup (E:Env) (ty:TypeId) (m k:Option AV) (ok:Bool) (h:List ABlk):OV:=match m,k with
 | some m,some k=>(aLookup E ty m k ok h).map (·,[])
 | _,_=>none
def oUpd (E:Env) (ty:TypeId) (m k x:Option AV) (h:List ABlk):OV:=match m,k,x with
 | some m,some k,some x=>(aUpd E ty m k x h).map fun u=>(.und,u)
 | _,_,_=>none
def evOpG (E:Env) (op:Op) (ty:TypeId) (ρ:Operand → Option AV) (h:List ABlk) (nw:Nat):OV:=
 match op with
 | .assign x=>oAssign E ty ρ nw x
 | .move x=>oMove (ρ x)
 | .pick c a b=>oPick (ρ c) (ρ a) (ρ b)
 | .alloc e=>oAlloc E e nw
 | .box _ x=>oBox (ρ x) nw
 | .build ty ps=>oBuild E ty (partsG ρ ps.toList)
 | .buildSlice ty len ps=>oBuildSlice E ty len (partsG ρ ps.toList) nw
 | .load ty a=>oLoad E ty (ρ a) h
 | .store ty a x=>oStore E ty (ρ a) (ρ x) h
 | .nilCheck x=>oCheck (ρ x)
 | .binOp op ty x y _=>oBin E op ty (ρ x) (ρ y)
 | .unOp op _ x=>oUn op (ρ x)
 | .convert src dst x=>oConv E src dst (ρ x) h nw
 | .makeFunc fn first captured=>oMakeFunc ρ fn first captured
 | .makeSlice ty l c=>oMake E ty (ρ l) (ρ c) nw
 | .slice ty x lo hi mx=>oSliceOp E ty ρ h nw x lo hi mx
 | .fieldAddr s x f=>oField E s (ρ x) f
 | .indexAddr ty x ix=>oIdxAddr E ty (ρ x) (ρ ix) h
 | .index ty x ix=>oIdx E ty (ρ x) (ρ ix)
 | .field ty x f=>oFieldV E ty (ρ x) f
 | .extract x i=>oExtract (ρ x) i
 | .call c=>oCall E ρ h nw c
 | .makeMap ty r=>aMakeMap E ty (optG ρ r) nw
 | .lookup ty x ix ok=>oLookup E ty (ρ x) (ρ ix) ok h
 | .mapUpdate ty m k x=>oUpd E ty (ρ m) (ρ k) (ρ x) h
 | .insert ty m k x=>oUpd E ty (ρ m) (ρ k) (ρ x) h
 | _=>none
theorem partsG_eq (t:List AV):∀ l,partsG (opd t) l=parts t l
 | []=>rfl
 | (i,x) :: l=>by unfold partsG parts;rw [partsG_eq t l];rfl
theorem argsG_eq (t:List AV):∀ l,argsG (opd t) l=argsA t l
 | []=>rfl
 | x :: l=>by unfold argsG argsA;rw [argsG_eq t l];rfl
theorem optG_eq (t:List AV):∀ x,optG (opd t) x=optA t x
 | none=>rfl
 | some x=>rfl
theorem evOpG_eq (E:Env) (op:Op) (ty:TypeId) (t:List AV) (h:List ABlk) (nw:Nat):evOpG E op ty (opd t) h nw=evOp E op ty t h nw:=by
 cases op with
 | assign x =>
  cases x with
  | const v =>
   cases v with
   | slice a n c =>
    cases a with
    | some a=>rfl
    | none =>
     cases n with
     | succ n=>rfl
     | zero=>cases c <;> rfl
   | _=>rfl
  | _=>rfl
 | makeFunc fn first captured =>
  cases fn with
  | func f =>
   simp only [evOpG,oMakeFunc,oFunc,argsG_eq,evOp]
   try rfl
  | _=>rfl
 | slice ty x lo hi mx =>
  cases mx with
  | some m =>
   cases lo with
   | some _=>rfl
   | none =>
    cases hi with
    | none=>rfl
    | some hh =>
     simp only [evOpG,oSliceOp,oSlice0,evOp,sliceOp]
     try rfl
  | none =>
   simp only [evOpG,oSliceOp,oSlice,optG_eq,evOp,sliceOp]
   try rfl
 | call c =>
  obtain ⟨callee,args,ats⟩:=c
  cases callee with
  | builtin b =>
   simp only [evOpG,oCall,oBuiltin,argsG_eq,evOp]
   try rfl
  | _=>rfl
 | makeMap ty r=>simp only [evOpG,optG_eq,evOp]
 | build ty ps =>
  simp only [evOpG,oBuild,partsG_eq,evOp]
  all_goals rfl
 | buildSlice ty len ps =>
  simp only [evOpG,oBuildSlice,partsG_eq,evOp]
  all_goals rfl
 | _=>rfl
inductive Tr where
 | em
 | lf (v:AV)
 | nd (l r:Tr)
noncomputable def Tr.get (t:Tr):Nat → AV:=Tr.rec (motive:=fun _=>Nat → AV) (fun _=>.und) (fun v _=>v) (fun _ _ gl gr i=>bif Nat.beq (i % 2) 0 then gl (i / 2) else gr (i / 2)) t
noncomputable def Tr.set (t:Tr):Nat → AV → Tr:=Tr.rec (motive:=fun _=>Nat → AV → Tr) (fun _ _=>.em) (fun _ _ v=>.lf v) (fun l r sl sr i v=>bif Nat.beq (i % 2) 0 then .nd (sl (i / 2) v) r else .nd l (sr (i / 2) v)) t
theorem Tr.get_nd (l r:Tr) (i:Nat):Tr.get (.nd l r) i=if i % 2=0 then Tr.get l (i / 2) else Tr.get r (i / 2):=by
 show (bif Nat.beq (i % 2) 0 then Tr.get l (i / 2) else Tr.get r (i / 2))=_
 by_cases h:i % 2=0
 ·rw [if_pos h,h];rfl
 ·rw [if_neg h]
  have:Nat.beq (i % 2) 0=false:=by cases hb:Nat.beq (i % 2) 0 with
   | false=>rfl
   | true=>exact absurd (Nat.eq_of_beq_eq_true hb) h
  rw [this];rfl
theorem Tr.set_nd (l r:Tr) (i:Nat) (v:AV):Tr.set (.nd l r) i v=if i % 2=0 then .nd (Tr.set l (i / 2) v) r else .nd l (Tr.set r (i / 2) v):=by
 show (bif Nat.beq (i % 2) 0 then Tr.nd (Tr.set l (i / 2) v) r else Tr.nd l (Tr.set r (i / 2) v))=_
 by_cases h:i % 2=0
 ·rw [if_pos h,h];rfl
 ·rw [if_neg h]
  have:Nat.beq (i % 2) 0=false:=by cases hb:Nat.beq (i % 2) 0 with
   | false=>rfl
   | true=>exact absurd (Nat.eq_of_beq_eq_true hb) h
  rw [this];rfl
def Tr.full:Nat → Tr
 | 0=>.lf .und
 | k + 1=>.nd (Tr.full k) (Tr.full k)
def Tr.comp:Nat → Tr → Prop
 | 0,.lf _=>True
 | k + 1,.nd l r=>Tr.comp k l ∧ Tr.comp k r
 | _,_=>False
theorem Tr.full_comp:∀ k,Tr.comp k (Tr.full k)
 | 0=>trivial
 | k + 1=>⟨Tr.full_comp k,Tr.full_comp k⟩
theorem Tr.get_full:∀ (k i:Nat),Tr.get (Tr.full k) i = .und
 | 0,_=>rfl
 | k + 1,i=>by
  rw [Tr.full,Tr.get_nd];split <;> exact Tr.get_full k _
theorem Tr.set_comp:∀ (k:Nat) (t:Tr) (d:Nat) (v:AV),Tr.comp k t → Tr.comp k (Tr.set t d v)
 | 0,.lf _,_,_,_=>trivial
 | k + 1,.nd l r,d,v,h=>by
  rw [Tr.set_nd];split
  ·exact ⟨Tr.set_comp k l _ v h.1,h.2⟩
  ·exact ⟨h.1,Tr.set_comp k r _ v h.2⟩
theorem Tr.get_set:∀ (k:Nat) (t:Tr) (d i:Nat) (v:AV),Tr.comp k t → d < 2 ^ k → i < 2 ^ k → Tr.get (Tr.set t d v) i=if i=d then v else Tr.get t i
 | 0,.lf u,d,i,v,_,hd,hi=>by
  have:i=d:=by simp at hd hi;omega
  rw [if_pos this];rfl
 | k + 1,.nd l r,d,i,v,h,hd,hi=>by
  have hd2:d / 2 < 2 ^ k:=by rw [Nat.pow_succ] at hd;omega
  have hi2:i / 2 < 2 ^ k:=by rw [Nat.pow_succ] at hi;omega
  rw [Tr.set_nd]
  by_cases h1:d % 2=0
  ·rw [if_pos h1,Tr.get_nd,Tr.get_nd]
   by_cases h2:i % 2=0
   ·rw [if_pos h2,if_pos h2,Tr.get_set k l (d / 2) (i / 2) v h.1 hd2 hi2]
    by_cases h3:i=d
    ·rw [if_pos h3,if_pos (by rw [h3])]
    ·rw [if_neg h3,if_neg (by omega)]
   ·rw [if_neg h2,if_neg h2,if_neg (by omega)]
  ·rw [if_neg h1,Tr.get_nd,Tr.get_nd]
   by_cases h2:i % 2=0
   ·rw [if_pos h2,if_pos h2,if_neg (by omega)]
   ·rw [if_neg h2,if_neg h2,Tr.get_set k r (d / 2) (i / 2) v h.2 hd2 hi2]
    by_cases h3:i=d
    ·rw [if_pos h3,if_pos (by rw [h3])]
    ·rw [if_neg h3,if_neg (by omega)]
structure Sl where
 n:Nat
 k:Nat
 t:Tr
def Sl.ok (s:Sl):Prop:=s.n ≤ 2 ^ s.k ∧ Tr.comp s.k s.t
noncomputable def Sl.list (s:Sl):List AV:=(List.range s.n).map (Tr.get s.t)
noncomputable def Sl.set (s:Sl) (d:Option Tmp) (v:AV):Sl:=match d with
 | some d=>if d < s.n then ⟨s.n,s.k,Tr.set s.t d v⟩ else s
 | none=>s
noncomputable def Sl.opd (s:Sl):Operand → Option AV
 | .tmp i=>if i < s.n then some (Tr.get s.t i) else none
 | .const v=>litA v
 | .func f=>some (.c (.fn f []))
 | .global g=>(Globs.glob g).map .rd
theorem Sl.get_list (s:Sl) (i:Nat):s.list[i]?=if i < s.n then some (Tr.get s.t i) else none:=by
 unfold Sl.list
 rw [List.getElem?_map]
 by_cases h:i < s.n
 ·rw [if_pos h,List.getElem?_range h];rfl
 ·rw [if_neg h,List.getElem?_eq_none (by simp;omega)];rfl
theorem Sl.opd_eq (s:Sl):s.opd=Ev.opd s.list:=funext fun x=>by
 cases x with
 | tmp i=>simp only [Sl.opd,Ev.opd,Sl.get_list]
 | _=>rfl
theorem Sl.length (s:Sl):s.list.length=s.n:=by simp [Sl.list]
theorem Sl.set_ok {s:Sl} (h:s.ok) (d:Option Tmp) (v:AV):(s.set d v).ok:=by
 unfold Sl.set;split
 ·split
  ·exact ⟨h.1,Tr.set_comp _ _ _ _ h.2⟩
  ·exact h
 ·exact h
theorem Sl.set_list {s:Sl} (h:s.ok) (d:Option Tmp) (v:AV):(s.set d v).list=setD s.list d v:=by
 cases d with
 | none=>rfl
 | some d =>
  apply List.ext_getElem?
  intro i
  simp only [setD]
  by_cases hd:d < s.n
  ·simp only [Sl.set,if_pos hd]
   rw [Sl.get_list]
   have hl:s.list.length=s.n:=by simp [Sl.list]
   by_cases hi:i < s.n
   ·simp only [if_pos hi]
    rw [Tr.get_set _ _ _ _ _ h.2 (Nat.lt_of_lt_of_le hd h.1) (Nat.lt_of_lt_of_le hi h.1)]
    by_cases e:i=d
    ·subst e;rw [if_pos rfl,List.getElem?_set_self (by rw [hl];exact hd)]
    ·rw [if_neg e,List.getElem?_set_ne (Ne.symm e),Sl.get_list,if_pos hi]
   ·rw [List.getElem?_eq_none (by simp [hl];omega)]
    simp only [if_neg hi]
  ·have hle:s.list.length ≤ d:=by
    rw [show s.list.length=s.n by simp [Sl.list]];exact Nat.le_of_not_lt hd
   simp only [Sl.set,if_neg hd]
   rw [List.set_eq_of_length_le hle]
noncomputable def fillT:Nat → List AV → Tr → Tr
 | _,[],t=>t
 | i,v :: l,t=>fillT (i + 1) l (Tr.set t i v)
def log2up:Nat → Nat → Nat → Nat
 | 0,_,k=>k
 | f + 1,n,k=>if n ≤ 2 ^ k then k else log2up f n (k + 1)
noncomputable def Sl.of (l:List AV) (n:Nat):Sl:=let k:=log2up 20 n 0;⟨n,k,fillT 0 (l.take n) (Tr.full k)⟩
theorem log2up_ok:∀ (f n k:Nat),n ≤ 2 ^ (k + f) → n ≤ 2 ^ log2up f n k
 | 0,n,k,h=>by simpa [log2up] using h
 | f + 1,n,k,h=>by
  unfold log2up
  split
  ·assumption
  ·exact log2up_ok f n (k + 1) (by rw [show k + 1 + f=k + (f + 1) by omega];exact h)
theorem fillT_get (k:Nat):∀ (l:List AV) (i:Nat) (t:Tr),Tr.comp k t → i + l.length ≤ 2 ^ k → Tr.comp k (fillT i l t) ∧ ∀ j,j < 2 ^ k → Tr.get (fillT i l t) j=if i ≤ j ∧ j < i + l.length then (l[j - i]?).getD .und else Tr.get t j
 | [],i,t,hc,_=>⟨hc,fun j _=>by simp [fillT];omega⟩
 | v :: l,i,t,hc,hl=>by
  simp only [List.length_cons] at hl
  obtain ⟨g1,g2⟩:=fillT_get k l (i + 1) (Tr.set t i v) (Tr.set_comp k t i v hc) (by omega)
  refine ⟨g1,fun j hj=>?_⟩
  unfold fillT
  rw [g2 j hj,Tr.get_set k t i j v hc (by omega) hj]
  by_cases h1:j=i
  ·subst h1
   rw [if_neg (by omega),if_pos rfl,if_pos (by simp)];simp
  ·rw [if_neg h1]
   by_cases h2:i + 1 ≤ j ∧ j < i + 1 + l.length
   ·rw [if_pos h2,if_pos (by simp;omega)]
    rw [show j - i=(j - (i + 1)) + 1 by omega];simp
   ·rw [if_neg h2,if_neg (by simp;omega)]
theorem Sl.of_spec (l:List AV) (n:Nat) (hn:n ≤ 2 ^ 20) (hl:l.length ≤ n):(Sl.of l n).ok ∧ (Sl.of l n).list=l ++ List.replicate (n - l.length) .und:=by
 have hk:n ≤ 2 ^ log2up 20 n 0:=log2up_ok 20 n 0 (by simpa using hn)
 obtain ⟨g1,g2⟩:=fillT_get (log2up 20 n 0) l 0 (Tr.full _) (Tr.full_comp _) (by omega)
 refine ⟨⟨hk,by simp only [Sl.of,List.take_of_length_le hl];exact g1⟩,?_⟩
 apply List.ext_getElem?
 intro i
 rw [Sl.get_list]
 simp only [Sl.of,List.take_of_length_le hl]
 by_cases hi:i < n
 ·rw [if_pos hi,g2 i (by omega)]
  by_cases h2:i < l.length
  ·rw [if_pos (by omega),List.getElem?_append_left h2,Nat.sub_zero,List.getElem?_eq_getElem h2];rfl
  ·rw [if_neg (by omega),Tr.get_full,List.getElem?_append_right (by omega),List.getElem?_replicate,if_pos (by omega)]
 ·rw [if_neg hi,List.getElem?_eq_none (by simp;omega)]
end Go.Ev
namespace Go.Ev
open Go.RowKit
variable [Globs]
def wantedG (ops:Array Oper) (g:Nat → Option AV) (o:Oper):Option Bool:=match o.guard with
 | none=>some true
 | some (j,want)=>match ((ops[j]?).bind (·.dst)).bind g with
  | some (.c (.bool b))=>some (b == want)
  | some .und=>some false
  | _=>none
theorem wantedG_eq (ops:Array Oper) (t:List AV) (o:Oper):wantedG ops (t[·]?) o=wantedA ops t o:=rfl
noncomputable def Sl.at (s:Sl) (i:Nat):Option AV:=if i < s.n then some (Tr.get s.t i) else none
theorem Sl.at_eq (s:Sl):s.at=(s.list[·]?):=funext fun i=>by rw [Sl.get_list];rfl
def callOfG (ρ:Operand → Option AV) (o:Oper):Option (FuncId × List AV):=match o.op with
 | .call c=>match c.callee with
  | .value fo=>match ρ fo,argsG ρ c.args.toList with
   | some fv,some args=>match fnOf fv with
    | some (f,caps)=>some (f,args ++ caps)
    | none=>none
   | _,_=>none
  | _=>none
 | _=>none
theorem callOfG_eq (t:List AV) (o:Oper):callOfG (opd t) o=callOf t o:=by
 unfold callOfG callOf
 simp only [argsG_eq]
 try rfl
def appZ (h:List ABlk) (U:List (Nat × ABlk)):List ABlk:=match U with
 | []=>h
 | p :: U=>app h (p :: U)
theorem appZ_eq (h:List ABlk) (U:List (Nat × ABlk)):appZ h U=app h U:=by cases U <;> rfl
abbrev OZ:=Option (Sl × List ABlk)
noncomputable def slowOp (E:Env) (ops:Array Oper) (o:Oper) (s:Sl) (h:List ABlk):OZ:=if closes o.op then
  let s1:=freezeIds (o.op.operands.toList.flatMap (idsIn s.list)) ⟨s.list,h⟩
  match evOp E o.op o.type s1.t s1.h s1.h.length with
  | some (v,U)=>match wantedA ops s1.t o with
   | some true=>if s.n ≤ 1048576 ∧ s1.t.length=s.n then some ((Sl.of s1.t s.n).set o.dst v,app s1.h U) else none
   | _=>none
  | none=>none
 else match truncOf o.op s.list h with
  | some (id,k)=>let s1:=trunc id k ⟨s.list,h⟩
   match evOp E o.op o.type s1.t s1.h s1.h.length with
   | some (v,U)=>some (s.set o.dst v,app s1.h U)
   | none=>none
  | none=>none
noncomputable def stepOp (E:Env) (ops:Array Oper) (o:Oper) (s:Sl) (h:List ABlk):OZ:=match evOpG E o.op o.type s.opd h h.length with
 | some (v,U)=>some (s.set o.dst v,appZ h U)
 | none=>slowOp E ops o s h
noncomputable def stepCall (K:FuncId → List AV → List ABlk → Option (AV × List ABlk)) (o:Oper) (s:Sl) (h:List ABlk):OZ:=match callOfG s.opd o with
 | some (f,args)=>match K f args h with
  | some (r,h')=>some (s.set o.dst r,h')
  | none=>none
 | none=>none
noncomputable def stepZ (E:Env) (K:FuncId → List AV → List ABlk → Option (AV × List ABlk)) (ops:Array Oper) (o:Oper) (s:Sl) (h:List ABlk):OZ:=match wantedG ops s.at o with
 | some true=>if goCall o then stepCall K o s h else stepOp E ops o s h
 | some false=>some (s.set o.dst .und,h)
 | none=>none
noncomputable def execOpsZ (E:Env) (K:FuncId → List AV → List ABlk → Option (AV × List ABlk)) (ops:Array Oper):List Oper → Sl → List ABlk → OZ
 | [],s,h=>some (s,h)
 | o :: os,s,h=>match stepZ E K ops o s h with
  | some (s1,h1)=>execOpsZ E K ops os s1 h1
  | none=>none
theorem Sl.of_same {l:List AV} {n:Nat} (h:n ≤ 1048576 ∧ l.length=n):(Sl.of l n).ok ∧ (Sl.of l n).list=l:=by
 obtain ⟨h1,h2⟩:=Sl.of_spec l n (by have:=h.1;simpa using this) (by omega)
 refine ⟨h1,?_⟩
 rw [h2,h.2];simp
theorem stepZ_sound {P:Program} {E:Env} (T:TabOK P E) {K:FuncId → List AV → List ABlk → Option (AV × List ABlk)} (hK:CallOK P K) {n:Nat} {ops:Array Oper} {i:Nat} {o:Oper} (hi:ops[i]?=some o) {s s':Sl} {h h':List ABlk} (he:stepZ E K ops o s h=some (s',h')) (hs:s.ok) :
  s'.ok ∧ ∀ (l:List Nat) (Q:Exit → St → Prop),RunOps P n ops l Q ⟨s'.list,h'⟩ → RunOps P n ops (i :: l) Q ⟨s.list,h⟩:=by
 unfold stepZ at he
 rw [Sl.at_eq,wantedG_eq] at he
 split at he
 ·rename_i hw
  split at he
  ·unfold stepCall at he
   rw [Sl.opd_eq,callOfG_eq] at he
   split at he
   ·rename_i f us hc
    split at he
    ·rename_i r h1 hk
     cases he
     obtain ⟨c,fo,fv,args,caps,q1,q2,q3,q4,q5,rfl⟩:=callOf_spec hc
     refine ⟨Sl.set_ok hs _ _,fun l Q hr=>?_⟩
     rw [Sl.set_list hs] at hr
     exact RunOps.call hi hw q1 q2 q3 q5 q4 (hK _ _ _ _ _ hk) hr
    ·cases he
   ·cases he
  ·unfold stepOp at he
   rw [Sl.opd_eq,evOpG_eq] at he
   split at he
   ·rename_i v U hv
    cases he
    refine ⟨Sl.set_ok hs _ _,fun l Q hr=>?_⟩
    rw [Sl.set_list hs,appZ_eq] at hr
    exact RunOps.op T hi hw hv hr
   ·unfold slowOp at he
    split at he
    ·simp only at he
     split at he
     ·rename_i v U hv
      split at he
      ·rename_i hw1
       split at he
       ·rename_i hn
        cases he
        obtain ⟨k1,k2⟩:=Sl.of_same hn
        refine ⟨Sl.set_ok k1 _ _,fun l Q hr=>?_⟩
        rw [Sl.set_list k1,k2] at hr
        exact RunOps.freezeIds _ (RunOps.op T hi hw1 hv hr)
       ·cases he
      ·cases he
     ·cases he
    ·split at he
     ·rename_i id k htr
      simp only at he
      split at he
      ·rename_i v U hv
       cases he
       refine ⟨Sl.set_ok hs _ _,fun l Q hr=>?_⟩
       rw [Sl.set_list hs] at hr
       refine RunOps.trunc id k (RunOps.op T hi (by rw [trunc_t];exact hw) hv ?_)
       rw [trunc_t];exact hr
      ·cases he
     ·cases he
 ·rename_i hw
  cases he
  refine ⟨Sl.set_ok hs _ _,fun l Q hr=>?_⟩
  rw [Sl.set_list hs] at hr
  exact RunOps.skip hi hw hr
 ·cases he
theorem execOpsZ_sound {P:Program} {E:Env} (T:TabOK P E) {K:FuncId → List AV → List ABlk → Option (AV × List ABlk)} (hK:CallOK P K) {n:Nat} {ops:Array Oper}:∀ (os pre:List Oper) (s s':Sl) (h h':List ABlk),ops.toList=pre ++ os → execOpsZ E K ops os s h=some (s',h') → s.ok → s'.ok ∧ ∀ Q:Exit → St → Prop,Q .normal ⟨s'.list,h'⟩ → RunOps P n ops (List.range' pre.length os.length) Q ⟨s.list,h⟩
 | [],pre,s,s',h,h',hp,he,hs=>by
  simp only [execOpsZ,Option.some.injEq,Prod.mk.injEq] at he
  obtain ⟨rfl,rfl⟩:=he
  exact ⟨hs,fun Q hq=>RunOps.nil hq⟩
 | o :: os,pre,s,s',h,h',hp,he,hs=>by
  unfold execOpsZ at he
  split at he
  ·rename_i s1 h1 hst
   have hi:ops[pre.length]?=some o:=by rw [← Array.getElem?_toList,hp];simp
   obtain ⟨g1,g2⟩:=stepZ_sound T hK (n:=n) hi hst hs
   obtain ⟨k1,k2⟩:=execOpsZ_sound T hK os (pre ++ [o]) s1 s' h1 h' (by rw [hp];simp) he g1
   refine ⟨k1,fun Q hq=>?_⟩
   have:=k2 Q hq
   simp only [List.length_append,List.length_singleton] at this
   rw [List.length_cons,List.range'_succ]
   exact g2 _ Q this
  ·cases he
noncomputable def bodyZ (E:Env) (X:Code → Sl → List ABlk → Option (Exit × Sl × List ABlk)) (F:FuncId → Option Func) (L:FuncId → List AV → List ABlk → Option (AV × List ABlk)) (f:FuncId) (args:List AV) (h:List ABlk):Option (AV × List ABlk):=
 match L f args h with
 | some r=>some r
 | none=>match F f with
  | none=>none
  | some fn=>match fn.body with
   | none=>none
   | some c=>if fn.name == "runtime.NumGoroutine" then none else
    if args.length ≤ fn.ntmps ∧ fn.ntmps ≤ 1048576 then
     match X c (Sl.of args fn.ntmps) h with
     | some (.normal,s,h') | some (.ret,s,h')=>(resA E fn.results.toList ⟨s.list,h'⟩).map fun r=>ended h.length r h'
     | _=>none
    else none
noncomputable def execZ (E:Env) (F:FuncId → Option Func) (L:FuncId → List AV → List ABlk → Option (AV × List ABlk)):Nat → Code → Sl → List ABlk → Option (Exit × Sl × List ABlk)
 | 0,_,_,_=>none
 | n + 1,c,s,h=>match c with
  | .skip=>some (.normal,s,h)
  | .label _=>some (.normal,s,h)
  | .exit id=>some (.exit id,s,h)
  | .goto l=>some (.goto l,s,h)
  | .ret=>some (.ret,s,h)
  | .seq x y=>match execZ E F L n x s h with
   | some (.normal,s1,h1)=>execZ E F L n y s1 h1
   | r=>r
  | .block id c=>match execZ E F L n c s h with
   | some (.exit id',s1,h1)=>if id'=id then some (.normal,s1,h1) else some (.exit id',s1,h1)
   | r=>r
  | .cond c x y=>match s.opd c with
   | some (.c (.bool b))=>execZ E F L n (if b then x else y) s h
   | _=>none
  | .loop c=>match execZ E F L n c s h with
   | some (.normal,s1,h1)=>execZ E F L n (.loop c) s1 h1
   | r=>r
  | .region _ ops false=>match execOpsZ E (bodyZ E (execZ E F L n) F L) ops ops.toList s h with
   | some (s1,h1)=>some (.normal,s1,h1)
   | none=>none
  | .region _ ops true=>if slotsOK ops then
    match drawn E (shut (bodyZ E (execZ E F L n) F L)) ops ⟨s.list,h⟩ with
    | some s1=>if s.n ≤ 1048576 ∧ s1.t.length=s.n then some (.normal,Sl.of s1.t s.n,s1.h) else none
    | none=>match otherTry E (bodyZ E (execZ E F L n) F L) ops ⟨s.list,h⟩ with
     | some s1=>if s.n ≤ 1048576 ∧ s1.t.length=s.n then some (.normal,Sl.of s1.t s.n,s1.h) else none
     | none=>none
   else none
  | _=>none
theorem bodyZ_sound {P:Program} {E:Env} (T:TabOK P E) {X:Code → Sl → List ABlk → Option (Exit × Sl × List ABlk)} {F:FuncId → Option Func} {L:FuncId → List AV → List ABlk → Option (AV × List ABlk)} (hF:∀ f fn,F f=some fn → P.funcs[f]?=some fn) (hL:CallOK P L)
  (hX:∀ c s h e s' h',X c s h=some (e,s',h') → s.ok → s'.ok ∧ ∀ n,Run P n c (fun e1 s1=>e1=e ∧ s1=⟨s'.list,h'⟩) ⟨s.list,h⟩):CallOK P (bodyZ E X F L):=by
 intro f args h r h' hb
 unfold bodyZ at hb
 split at hb
 ·rename_i r0 h0;cases hb;exact hL _ _ _ _ _ h0
 ·split at hb
  ·cases hb
  ·rename_i fn hfn
   split at hb
   ·cases hb
   ·rename_i c hc
    split at hb
    ·cases hb
    ·rename_i hnm
     split at hb
     ·rename_i hn
      obtain ⟨k1,k2⟩:=Sl.of_spec args fn.ntmps (by have:=hn.2;simpa using this) hn.1
      have fin:∀ e s h1,(e = .normal ∨ e = .ret) → X c (Sl.of args fn.ntmps) h=some (e,s,h1) → (resA E fn.results.toList ⟨s.list,h1⟩).map (fun r=>ended h.length r h1)=some (r,h') → Good P f args h r h':=fun e s h2 he hx hb=>by
       obtain ⟨r1,hr1,hend⟩:=Option.map_eq_some_iff.1 hb
       have hrun:=(hX _ _ _ _ _ _ hx k1).2 h.length
       rw [k2] at hrun
       have G:Good P f args h r1 h2:=Good.of_run T (hF f fn hfn) hc (by simpa using hnm) (hrun.mono fun e1 s1 ⟨q1,q2⟩=>by
        rw [q1,q2];exact ⟨he,hr1,rfl⟩)
       unfold ended at hend
       split at hend
       ·rename_i hst
        cases hend
        exact G.trim (Nat.le_refl _) hst
       ·cases hend;exact G
      split at hb
      ·rename_i s h1 hx;exact fin _ s h1 (.inl rfl) hx hb
      ·rename_i s h1 hx;exact fin _ s h1 (.inr rfl) hx hb
      ·cases hb
     ·cases hb
theorem inBlockS_hit {id id':Nat} {Q:Exit → St → Prop} {s:St} (h:id'=id) (hq:Q .normal s):inBlockS id Q (.exit id') s:=by
 simp only [inBlockS,if_pos h];exact hq
theorem inBlockS_miss {id id':Nat} {Q:Exit → St → Prop} {s:St} (h:¬ id'=id) (hq:Q (.exit id') s):inBlockS id Q (.exit id') s:=by
 simp only [inBlockS,if_neg h];exact hq
theorem execZ_sound {P:Program} {E:Env} (T:TabOK P E) {F:FuncId → Option Func} {L:FuncId → List AV → List ABlk → Option (AV × List ABlk)} (hF:∀ f fn,F f=some fn → P.funcs[f]?=some fn) (hL:CallOK P L) :
  ∀ (fuel:Nat) (c:Code) (s:Sl) (h:List ABlk) (e:Exit) (s':Sl) (h':List ABlk),execZ E F L fuel c s h=some (e,s',h') → s.ok → s'.ok ∧ ∀ n,Run P n c (fun e1 s1=>e1=e ∧ s1=⟨s'.list,h'⟩) ⟨s.list,h⟩:=by
 intro fuel
 induction fuel using Nat.strongRecOn with
 | _ fuel IH =>
 cases fuel with
 | zero=>intro c s h e s' h' hx;simp [execZ] at hx
 | succ fuel =>
  intro c s h e s' h' hx hs
  have ih:=IH fuel (by omega)
  have hK:CallOK P (bodyZ E (execZ E F L fuel) F L):=bodyZ_sound T hF hL ih
  cases c with
  | skip=>simp only [execZ,Option.some.injEq,Prod.mk.injEq] at hx;obtain ⟨rfl,rfl,rfl⟩:=hx;exact ⟨hs,fun n=>Run.skip ⟨rfl,rfl⟩⟩
  | label l=>simp only [execZ,Option.some.injEq,Prod.mk.injEq] at hx;obtain ⟨rfl,rfl,rfl⟩:=hx;exact ⟨hs,fun n=>Run.label ⟨rfl,rfl⟩⟩
  | exit id=>simp only [execZ,Option.some.injEq,Prod.mk.injEq] at hx;obtain ⟨rfl,rfl,rfl⟩:=hx;exact ⟨hs,fun n=>Run.exit ⟨rfl,rfl⟩⟩
  | goto id=>simp only [execZ,Option.some.injEq,Prod.mk.injEq] at hx;obtain ⟨rfl,rfl,rfl⟩:=hx;exact ⟨hs,fun n=>Run.goto ⟨rfl,rfl⟩⟩
  | ret=>simp only [execZ,Option.some.injEq,Prod.mk.injEq] at hx;obtain ⟨rfl,rfl,rfl⟩:=hx;exact ⟨hs,fun n=>Run.ret ⟨rfl,rfl⟩⟩
  | seq x y =>
   simp only [execZ] at hx
   cases hy:execZ E F L fuel x s h with
   | none=>rw [hy] at hx;cases hx
   | some p =>
    obtain ⟨e1,s1,h1⟩:=p
    rw [hy] at hx
    obtain ⟨k1,k2⟩:=ih _ _ _ _ _ _ hy hs
    cases e1 with
    | normal =>
     simp only at hx
     obtain ⟨g1,g2⟩:=ih _ _ _ _ _ _ hx k1
     exact ⟨g1,fun n=>Run.seq ((k2 n).mono fun e9 s9 ⟨q1,q2⟩=>by rw [q1,q2];exact g2 n)⟩
    | _ =>
     simp only [Option.some.injEq,Prod.mk.injEq] at hx
     obtain ⟨rfl,rfl,rfl⟩:=hx
     exact ⟨k1,fun n=>Run.seq ((k2 n).mono fun e9 s9 ⟨q1,q2⟩=>by rw [q1,q2];exact ⟨rfl,rfl⟩)⟩
  | block id c =>
   simp only [execZ] at hx
   cases hy:execZ E F L fuel c s h with
   | none=>rw [hy] at hx;cases hx
   | some p =>
    obtain ⟨e1,s1,h1⟩:=p
    rw [hy] at hx
    obtain ⟨k1,k2⟩:=ih _ _ _ _ _ _ hy hs
    cases e1 with
    | exit id' =>
     simp only at hx
     split at hx <;> rename_i hid <;> simp only [Option.some.injEq,Prod.mk.injEq] at hx <;> obtain ⟨rfl,rfl,rfl⟩:=hx
     ·exact ⟨k1,fun n=>Run.block ((k2 n).mono fun e9 s9 ⟨q1,q2⟩=>by rw [q1,q2];exact inBlockS_hit hid ⟨rfl,rfl⟩)⟩
     ·exact ⟨k1,fun n=>Run.block ((k2 n).mono fun e9 s9 ⟨q1,q2⟩=>by rw [q1,q2];exact inBlockS_miss hid ⟨rfl,rfl⟩)⟩
    | _ =>
     simp only [Option.some.injEq,Prod.mk.injEq] at hx
     obtain ⟨rfl,rfl,rfl⟩:=hx
     exact ⟨k1,fun n=>Run.block ((k2 n).mono fun e9 s9 ⟨q1,q2⟩=>by rw [q1,q2];exact ⟨rfl,rfl⟩)⟩
  | cond c x y =>
   simp only [execZ,Sl.opd_eq] at hx
   split at hx
   ·rename_i b hb
    obtain ⟨k1,k2⟩:=ih _ _ _ _ _ _ hx hs
    exact ⟨k1,fun n=>Run.cond hb (k2 n)⟩
   ·cases hx
  | loop c =>
   refine ⟨?_,fun n=>?_⟩
   ·have key:∀ (j:Nat) (s1:Sl) (h1:List ABlk),j ≤ fuel + 1 → s1.ok → execZ E F L j (.loop c) s1 h1=some (e,s',h') → s'.ok:=by
     intro j
     induction j using Nat.strongRecOn with
     | _ j IHj =>
     intro s1 h1 hj hok hx1
     cases j with
     | zero=>simp [execZ] at hx1
     | succ j =>
      simp only [execZ] at hx1
      cases hy:execZ E F L j c s1 h1 with
      | none=>rw [hy] at hx1;cases hx1
      | some p =>
       obtain ⟨e1,s2,h2⟩:=p
       rw [hy] at hx1
       obtain ⟨k1,_⟩:=IH j (by omega) _ _ _ _ _ _ hy hok
       cases e1 with
       | normal=>exact IHj j (by omega) s2 h2 (by omega) k1 hx1
       | _=>simp only [Option.some.injEq,Prod.mk.injEq] at hx1;obtain ⟨_,rfl,_⟩:=hx1;exact k1
    exact key (fuel + 1) s h (Nat.le_refl _) hs hx
   ·refine Run.loop (fun j s1=>∃ s2 h2,s1=⟨s2.list,h2⟩ ∧ s2.ok ∧ j ≤ fuel + 1 ∧ execZ E F L j (.loop c) s2 h2=some (e,s',h')) (fuel + 1) ⟨s,h,rfl,hs,Nat.le_refl _,hx⟩ ?_
    rintro j s1 ⟨s2,h2,rfl,hok,hj,hx1⟩
    cases j with
    | zero=>simp [execZ] at hx1
    | succ j =>
     simp only [execZ] at hx1
     cases hy:execZ E F L j c s2 h2 with
     | none=>rw [hy] at hx1;cases hx1
     | some p =>
      obtain ⟨e1,s3,h3⟩:=p
      rw [hy] at hx1
      obtain ⟨k1,k2⟩:=IH j (by omega) _ _ _ _ _ _ hy hok
      refine (k2 n).mono fun e9 s9 ⟨q1,q2⟩=>?_
      rw [q1,q2]
      cases e1 with
      | normal=>exact ⟨j,by omega,s3,h3,rfl,k1,by omega,hx1⟩
      | _ =>
       simp only [Option.some.injEq,Prod.mk.injEq] at hx1
       obtain ⟨rfl,rfl,rfl⟩:=hx1
       exact ⟨rfl,rfl⟩
  | region id ops draw =>
   cases draw with
   | false =>
    simp only [execZ] at hx
    split at hx
    ·rename_i s1 h1 hy
     cases hx
     refine ⟨(execOpsZ_sound (n:=0) T hK _ [] _ _ _ _ rfl hy hs).1,fun n=>Run.region ?_⟩
     rw [List.range_eq_range']
     have:=(execOpsZ_sound (n:=n) T hK _ [] _ _ _ _ rfl hy hs).2
     simp only [List.length_nil,Array.length_toList] at this
     exact this _ ⟨rfl,rfl⟩
    ·cases hx
   | true =>
    simp only [execZ] at hx
    split at hx
    ·rename_i hsl
     split at hx
     ·rename_i s1 hd
      split at hx
      ·rename_i hn
       obtain ⟨k1,k2⟩:=Sl.of_same hn
       cases hx
       refine ⟨k1,fun n=>Run.drawn T (shut_sound hK) hsl hd ⟨rfl,?_⟩⟩
       rw [k2]
      ·cases hx
     ·split at hx
      ·rename_i s1 hd
       split at hx
       ·rename_i hn
        obtain ⟨k1,k2⟩:=Sl.of_same hn
        cases hx
        refine ⟨k1,fun n=>?_⟩
        rw [k2]
        exact otherTry_sound T hK hsl hd
       ·cases hx
      ·cases hx
    ·cases hx
  | rangeFunc _ _ _ _=>simp [execZ] at hx
  | scope _=>simp [execZ] at hx
  | refuse _=>simp [execZ] at hx
theorem Good.reckonedV {P:Program} (vec:TypeId → Bool) (hm:P.follows .mixedOrders=true) {L:FuncId → List AV → List ABlk → Option (AV × List ABlk)} (hL:CallOK P L) {fuel:Nat} {f:FuncId} {args:List AV} {h:List ABlk} {r:AV} {h':List ABlk}
  (hx:bodyZ (envV P vec) (execZ (envV P vec) (fun f=>P.funcs[f]?) L fuel) (fun f=>P.funcs[f]?) L f args h=some (r,h')):Good P f args h r h':=
 bodyZ_sound (envV_ok hm) (fun _ _ h=>h) hL (execZ_sound (envV_ok hm) (fun _ _ h=>h) hL fuel) _ _ _ _ _ hx
end Go.Ev
namespace Go.Ev
open Go.RowKit
variable [Globs]
def Wp {α:Type} (x:Option α) (k:α → Prop):Prop:=∃ a,x=some a ∧ k a
theorem Wp.of {α:Type} {x:Option α} {a:α} {k:α → Prop} (hx:x=some a) (hk:k a):Wp x k:=⟨a,hx,hk⟩
def vcCall (P:Program) (f:FuncId) (args:List AV) (h:List ABlk) (k:AV → List ABlk → Prop):Prop:=∃ r h',Good P f args h r h' ∧ k r h'
theorem vcCall.of {P:Program} {f:FuncId} {args:List AV} {h:List ABlk} {k:AV → List ABlk → Prop} {r:AV} {h':List ABlk} (G:Good P f args h r h') (hk:k r h'):vcCall P f args h k:=⟨r,h',G,hk⟩
def vecT (E:Env) (ty:TypeId):Bool:=match E.und ty with
 | some (.slice e)=>E.vec e
 | _=>false
def vecB (h:List ABlk) (id:Nat):Bool:=match h[id]? with
 | some (.vec _ _ _)=>true
 | _=>false
def fzIds (E:Env) (op:Op) (t:List AV) (h:List ABlk):List Nat:=match op with
 | .buildSlice ty _ ps=>if vecT E ty then [] else (ps.toList.map (·.2)).flatMap (idsIn t)
 | .store _ a x=>match opd t a with
  | some (.er id _ _)=>if vecB h id then [] else idsIn t x
  | _=>[]
 | _=>[]
inductive Fr where
 | seq (y:Code)
 | blk (id:Nat)
 | lp (J:St → Prop)
 | scp
structure Ctx where
 P:Program
 E:Env
 n:Nat
 Q:Exit → St → Prop
inductive Md where
 | code (c:Code)
 | exit (e:Exit)
 | br (v:Option AV) (x y:Code)
 | ops (a:Array Oper) (l:List Oper)
 | opw (a:Array Oper) (o:Oper) (l:List Oper) (w:Option Bool)
 | opg (a:Array Oper) (o:Oper) (l:List Oper) (b:Bool)
 | opc (a:Array Oper) (o:Oper) (l:List Oper) (c:Option (FuncId × List AV))
 | opn (a:Array Oper) (o:Oper) (l:List Oper) (b:Bool)
 | opf (a:Array Oper) (o:Oper) (l:List Oper) (ids:List Nat)
 | opx (a:Array Oper) (o:Oper) (l:List Oper) (w:Option Bool)
 | opv (a:Array Oper) (o:Oper) (l:List Oper) (v:Option (AV × List (Nat × ABlk)))
def noGotoS (Q:Exit → St → Prop):Exit → St → Prop
 | .goto _,_=>False
 | e,s=>Q e s
theorem Run.scope {P:Program} {n:Nat} {c:Code} {Q:Exit → St → Prop} {s:St} (h:Run P n c (noGotoS Q) s):Run P n (.scope c) Q s:=fun X a w hX hs=>wp_scope_straight (wp_mono (h X a w hX hs) fun e a' w' ⟨s',h1,h2⟩=>by
 cases e with
 | goto l=>exact h2.elim
 | _=>exact ⟨s',h1,h2⟩)
def unw (G:Ctx):List Fr → Exit → St → Prop
 | [],e,s=>G.Q e s
 | .seq y :: K,e,s=>thenS (fun s=>Run G.P G.n y (unw G K) s) (unw G K) e s
 | .blk id :: K,e,s=>inBlockS id (unw G K) e s
 | .lp J :: K,e,s=>thenS J (unw G K) e s
 | .scp :: K,e,s=>noGotoS (unw G K) e s
def Ahead (G:Ctx) (a:Array Oper) (l:List Oper) (K:List Fr) (s:St):Prop:=∀ pre,a.toList=pre ++ l → RunOps G.P G.n a (List.range' pre.length l.length) (unw G K) s
def Sem (G:Ctx):Md → List Fr → St → Prop
 | .code c,K,s=>Run G.P G.n c (unw G K) s
 | .exit e,K,s=>unw G K e s
 | .br v x y,K,s=>∃ b,v=some (.c (.bool b)) ∧ Run G.P G.n (if b then x else y) (unw G K) s
 | .ops a l,K,s=>Ahead G a l K s
 | .opw a o l w,K,s=>wantedA a s.t o=w → Ahead G a (o :: l) K s
 | .opg a o l b,K,s=>wantedA a s.t o=some true → goCall o=b → Ahead G a (o :: l) K s
 | .opc a o l c,K,s=>wantedA a s.t o=some true → callOf s.t o=c → Ahead G a (o :: l) K s
 | .opn a o l b,K,s=>wantedA a s.t o=some true → nilQ G.E s.t o.op=b → Ahead G a (o :: l) K s
 | .opf a o l ids,K,s=>wantedA a s.t o=some true → Ahead G a (o :: l) K s
 | .opx a o l w,K,s=>wantedA a s.t o=w → Ahead G a (o :: l) K s
 | .opv a o l v,K,s=>wantedA a s.t o=some true → evOp G.E o.op o.type s.t s.h s.h.length=v → Ahead G a (o :: l) K s
def Lp (G:Ctx) (c:Code) (K:List Fr) (s:St):Prop:=Run G.P G.n (.loop c) (unw G K) s
def Dr (G:Ctx) (a:Array Oper) (K:List Fr) (s:St):Prop:=∀ id,Run G.P G.n (.region id a true) (unw G K) s
def Cl (G:Ctx) (f:FuncId) (args:List AV) (o:Oper) (a:Array Oper) (l:List Oper) (K:List Fr) (s:St):Prop:=
 wantedA a s.t o=some true → callOf s.t o=some (f,args) → Ahead G a (o :: l) K s
def vm (G:Ctx):Nat → Md → List Fr → St → Prop
 | 0,m,K,s=>Sem G m K s
 | k + 1,.code c,K,s=>match c with
  | .skip=>vm G k (.exit .normal) K s
  | .label _=>vm G k (.exit .normal) K s
  | .exit id=>vm G k (.exit (.exit id)) K s
  | .goto l=>vm G k (.exit (.goto l)) K s
  | .ret=>vm G k (.exit .ret) K s
  | .seq x y=>vm G k (.code x) (.seq y :: K) s
  | .block id c=>vm G k (.code c) (.blk id :: K) s
  | .cond c x y=>vm G k (.br (opd s.t c) x y) K s
  | .loop c=>Lp G c K s
  | .region _ a false=>vm G k (.ops a a.toList) K s
  | .region _ a true=>Dr G a K s
  | .scope c=>vm G k (.code c) (.scp :: K) s
  | c=>Sem G (.code c) K s
 | k + 1,.exit e,K,s=>match K with
  | []=>G.Q e s
  | .seq y :: K=>match e with
   | .normal=>vm G k (.code y) K s
   | e=>vm G k (.exit e) K s
  | .blk id :: K=>match e with
   | .exit id'=>if id'=id then vm G k (.exit .normal) K s else vm G k (.exit (.exit id')) K s
   | e=>vm G k (.exit e) K s
  | .lp J :: K=>match e with
   | .normal=>J s
   | e=>vm G k (.exit e) K s
  | .scp :: K=>match e with
   | .goto _=>False
   | e=>vm G k (.exit e) K s
 | k + 1,.br v x y,K,s=>match v with
  | some (.c (.bool b))=>(b=true → vm G k (.code x) K s) ∧ (b=false → vm G k (.code y) K s)
  | _=>False
 | k + 1,.ops a l,K,s=>match l with
  | []=>vm G k (.exit .normal) K s
  | o :: l=>vm G k (.opw a o l (wantedA a s.t o)) K s
 | k + 1,.opw a o l w,K,s=>match w with
  | some false=>vm G k (.ops a l) K ⟨setD s.t o.dst .und,s.h⟩
  | some true=>vm G k (.opg a o l (goCall o)) K s
  | none=>False
 | k + 1,.opg a o l b,K,s=>match b with
  | true=>vm G k (.opc a o l (callOf s.t o)) K s
  | false=>vm G k (.opn a o l (nilQ G.E s.t o.op)) K s
 | k + 1,.opn a o l b,K,s=>match b with
  | true=>∀ b,vm G k (.ops a l) K ⟨setD s.t o.dst (.c (.bool b)),s.h⟩
  | false=>vm G k (.opf a o l (fzIds G.E o.op s.t s.h)) K s
 | k + 1,.opc a o l c,K,s=>match c with
  | some (f,args)=>Cl G f args o a l K s
  | none=>False
 | k + 1,.opf a o l ids,K,s=>match ids with
  | []=>vm G k (.opv a o l (evOp G.E o.op o.type s.t s.h s.h.length)) K s
  | id :: ids=>match freezeIds (id :: ids) s with
   | s1=>vm G k (.opx a o l (wantedA a s1.t o)) K s1
 | k + 1,.opx a o l w,K,s=>match w with
  | some true=>vm G k (.opv a o l (evOp G.E o.op o.type s.t s.h s.h.length)) K s
  | _=>False
 | k + 1,.opv a o l v,K,s=>match v with
  | some (v,U)=>vm G k (.ops a l) K ⟨setD s.t o.dst v,app s.h U⟩
  | none=>False
theorem Ahead.next {G:Ctx} {a:Array Oper} {o:Oper} {l:List Oper} {K:List Fr} {s s1:St} (h:Ahead G a l K s1)
  (hs:∀ i rest,a[i]?=some o → RunOps G.P G.n a rest (unw G K) s1 → RunOps G.P G.n a (i :: rest) (unw G K) s):Ahead G a (o :: l) K s:=fun pre hp=>by
 have hi:a[pre.length]?=some o:=by rw [← Array.getElem?_toList,hp];simp
 have:=h (pre ++ [o]) (by rw [hp];simp)
 simp only [List.length_append,List.length_singleton] at this
 rw [List.length_cons,List.range'_succ]
 exact hs _ _ hi this
theorem vm_sem {G:Ctx} (T:TabOK G.P G.E):∀ (k:Nat) (m:Md) (K:List Fr) (s:St),vm G k m K s → Sem G m K s:=by
 intro k
 induction k with
 | zero=>intro m K s h;exact h
 | succ k ih =>
  intro m K s h
  cases m with
  | code c =>
   cases c with
   | skip=>exact Run.skip (ih _ _ _ h)
   | label _=>exact Run.label (ih _ _ _ h)
   | exit id=>exact Run.exit (ih _ _ _ h)
   | goto l=>exact Run.goto (ih _ _ _ h)
   | ret=>exact Run.ret (ih _ _ _ h)
   | seq x y=>exact Run.seq (ih _ _ _ h)
   | block id c=>exact Run.block (ih _ _ _ h)
   | cond c x y =>
    obtain ⟨b,hb,h⟩:=ih _ _ _ h
    exact Run.cond hb h
   | loop c=>exact h
   | region id a d =>
    cases d with
    | true=>exact h id
    | false =>
     have:=ih _ _ _ h [] rfl
     refine Run.region ?_
     rw [List.range_eq_range']
     simpa using this
   | rangeFunc _ _ _ _=>exact h
   | scope _=>exact Run.scope (ih _ _ _ h)
   | refuse _=>exact h
  | exit e =>
   cases K with
   | nil=>exact h
   | cons fr K =>
    cases fr with
    | seq y=>cases e <;> (simp only [vm] at h;have h2:=ih _ _ _ h;exact h2)
    | blk id =>
     cases e with
     | exit id' =>
      simp only [vm] at h
      simp only [Sem,unw,inBlockS]
      split at h <;> rename_i he
      ·rw [if_pos he];have h2:=ih _ _ _ h;exact h2
      ·rw [if_neg he];have h2:=ih _ _ _ h;exact h2
     | _=>simp only [vm] at h;have h2:=ih _ _ _ h;exact h2
    | lp J =>
     cases e with
     | normal=>exact h
     | _=>simp only [vm] at h;have h2:=ih _ _ _ h;exact h2
    | scp =>
     cases e with
     | goto l=>exact h.elim
     | _=>simp only [vm] at h;have h2:=ih _ _ _ h;exact h2
  | br v x y =>
   simp only [vm] at h
   split at h
   ·rename_i b
    refine ⟨b,rfl,?_⟩
    cases b with
    | true=>exact ih _ _ _ (h.1 rfl)
    | false=>exact ih _ _ _ (h.2 rfl)
   ·exact h.elim
  | ops a l =>
   cases l with
   | nil=>exact fun pre hp=>RunOps.nil (ih _ _ _ h)
   | cons o l=>exact ih _ _ _ h rfl
  | opw a o l w =>
   intro hw
   simp only [vm] at h
   split at h
   ·exact Ahead.next (ih _ _ _ h) fun i rest hi hr=>RunOps.skip hi hw hr
   ·exact ih _ _ _ h hw rfl
   ·exact h.elim
  | opg a o l b =>
   intro hw hg
   simp only [vm] at h
   split at h
   ·exact ih _ _ _ h hw rfl
   ·exact ih _ _ _ h hw rfl
  | opn a o l b =>
   intro hw hq
   simp only [vm] at h
   split at h
   ·intro pre hp
    have hi:a[pre.length]?=some o:=by rw [← Array.getElem?_toList,hp];simp
    rw [List.length_cons,List.range'_succ]
    refine RunOps.nilq T hi hw hq fun b=>?_
    have:=ih _ _ _ (h b) (pre ++ [o]) (by rw [hp];simp)
    simp only [List.length_append,List.length_singleton] at this
    exact this
   ·exact ih _ _ _ h hw
  | opc a o l c =>
   intro hw hc
   simp only [vm] at h
   split at h
   ·exact h hw hc
   ·exact h.elim
  | opf a o l ids =>
   intro hw
   cases ids with
   | nil=>exact ih _ _ _ h hw rfl
   | cons id ids =>
    have:=ih _ _ _ h rfl
    intro pre hp
    exact RunOps.freezeIds (id :: ids) (this pre hp)
  | opx a o l w =>
   intro hw
   simp only [vm] at h
   split at h
   ·exact ih _ _ _ h hw rfl
   ·exact h.elim
  | opv a o l v =>
   intro hw hv
   simp only [vm] at h
   split at h
   ·exact Ahead.next (ih _ _ _ h) fun i rest hi hr=>RunOps.op T hi hw hv hr
   ·exact h.elim
section
variable {G:Ctx} {k:Nat} {K:List Fr} {s:St}
theorem vm_skip:vm G (k + 1) (.code .skip) K s=vm G k (.exit .normal) K s:=propext Iff.rfl
theorem vm_label {l:Nat}:vm G (k + 1) (.code (.label l)) K s=vm G k (.exit .normal) K s:=propext Iff.rfl
theorem vm_exit {id:Nat}:vm G (k + 1) (.code (.exit id)) K s=vm G k (.exit (.exit id)) K s:=propext Iff.rfl
theorem vm_goto {l:Nat}:vm G (k + 1) (.code (.goto l)) K s=vm G k (.exit (.goto l)) K s:=propext Iff.rfl
theorem vm_ret:vm G (k + 1) (.code .ret) K s=vm G k (.exit .ret) K s:=propext Iff.rfl
theorem vm_seq {x y:Code}:vm G (k + 1) (.code (.seq x y)) K s=vm G k (.code x) (.seq y :: K) s:=propext Iff.rfl
theorem vm_block {id:Nat} {c:Code}:vm G (k + 1) (.code (.block id c)) K s=vm G k (.code c) (.blk id :: K) s:=propext Iff.rfl
theorem vm_cond {c:Operand} {x y:Code}:vm G (k + 1) (.code (.cond c x y)) K s=vm G k (.br (opd s.t c) x y) K s:=propext Iff.rfl
theorem vm_loop {c:Code}:vm G (k + 1) (.code (.loop c)) K s=Lp G c K s:=propext Iff.rfl
theorem vm_region {id:Nat} {a:Array Oper}:vm G (k + 1) (.code (.region id a false)) K s=vm G k (.ops a a.toList) K s:=propext Iff.rfl
theorem vm_drawn {id:Nat} {a:Array Oper}:vm G (k + 1) (.code (.region id a true)) K s=Dr G a K s:=propext Iff.rfl
theorem vm_end {e:Exit}:vm G (k + 1) (.exit e) [] s=G.Q e s:=propext Iff.rfl
theorem vm_then {y:Code}:vm G (k + 1) (.exit .normal) (.seq y :: K) s=vm G k (.code y) K s:=propext Iff.rfl
theorem vm_then_ret {y:Code}:vm G (k + 1) (.exit .ret) (.seq y :: K) s=vm G k (.exit .ret) K s:=propext Iff.rfl
theorem vm_then_exit {y:Code} {id:Nat}:vm G (k + 1) (.exit (.exit id)) (.seq y :: K) s=vm G k (.exit (.exit id)) K s:=propext Iff.rfl
theorem vm_blk {id:Nat}:vm G (k + 1) (.exit .normal) (.blk id :: K) s=vm G k (.exit .normal) K s:=propext Iff.rfl
theorem vm_blk_ret {id:Nat}:vm G (k + 1) (.exit .ret) (.blk id :: K) s=vm G k (.exit .ret) K s:=propext Iff.rfl
theorem vm_blk_exit {id id':Nat}:vm G (k + 1) (.exit (.exit id')) (.blk id :: K) s=if id'=id then vm G k (.exit .normal) K s else vm G k (.exit (.exit id')) K s:=propext Iff.rfl
theorem vm_lp {J:St → Prop}:vm G (k + 1) (.exit .normal) (.lp J :: K) s=J s:=propext Iff.rfl
theorem vm_lp_ret {J:St → Prop}:vm G (k + 1) (.exit .ret) (.lp J :: K) s=vm G k (.exit .ret) K s:=propext Iff.rfl
theorem vm_lp_exit {J:St → Prop} {id:Nat}:vm G (k + 1) (.exit (.exit id)) (.lp J :: K) s=vm G k (.exit (.exit id)) K s:=propext Iff.rfl
theorem vm_scope {c:Code}:vm G (k + 1) (.code (.scope c)) K s=vm G k (.code c) (.scp :: K) s:=propext Iff.rfl
theorem vm_scp:vm G (k + 1) (.exit .normal) (.scp :: K) s=vm G k (.exit .normal) K s:=propext Iff.rfl
theorem vm_scp_ret:vm G (k + 1) (.exit .ret) (.scp :: K) s=vm G k (.exit .ret) K s:=propext Iff.rfl
theorem vm_scp_exit {id:Nat}:vm G (k + 1) (.exit (.exit id)) (.scp :: K) s=vm G k (.exit (.exit id)) K s:=propext Iff.rfl
theorem vm_br_true {x y:Code}:vm G (k + 1) (.br (some (.c (.bool true))) x y) K s=vm G k (.code x) K s:=propext ⟨fun h=>h.1 rfl,fun h=>⟨fun _=>h,fun h=>by cases h⟩⟩
theorem vm_br_false {x y:Code}:vm G (k + 1) (.br (some (.c (.bool false))) x y) K s=vm G k (.code y) K s:=propext ⟨fun h=>h.2 rfl,fun h=>⟨fun h=>(by cases h),fun _=>h⟩⟩
theorem vm_br {b:Bool} {x y:Code} (h1:b=true → vm G k (.code x) K s) (h2:b=false → vm G k (.code y) K s):vm G (k + 1) (.br (some (.c (.bool b))) x y) K s:=⟨h1,h2⟩
theorem vm_ops_nil {a:Array Oper}:vm G (k + 1) (.ops a []) K s=vm G k (.exit .normal) K s:=propext Iff.rfl
theorem vm_ops {a:Array Oper} {o:Oper} {l:List Oper}:vm G (k + 1) (.ops a (o :: l)) K s=vm G k (.opw a o l (wantedA a s.t o)) K s:=propext Iff.rfl
theorem vm_opw_true {a:Array Oper} {o:Oper} {l:List Oper}:vm G (k + 1) (.opw a o l (some true)) K s=vm G k (.opg a o l (goCall o)) K s:=propext Iff.rfl
theorem vm_opw_false {a:Array Oper} {o:Oper} {l:List Oper}:vm G (k + 1) (.opw a o l (some false)) K s=vm G k (.ops a l) K ⟨setD s.t o.dst .und,s.h⟩:=propext Iff.rfl
theorem vm_opg_true {a:Array Oper} {o:Oper} {l:List Oper}:vm G (k + 1) (.opg a o l true) K s=vm G k (.opc a o l (callOf s.t o)) K s:=propext Iff.rfl
theorem vm_opg_false {a:Array Oper} {o:Oper} {l:List Oper}:vm G (k + 1) (.opg a o l false) K s=vm G k (.opn a o l (nilQ G.E s.t o.op)) K s:=propext Iff.rfl
theorem vm_opn_true {a:Array Oper} {o:Oper} {l:List Oper}:vm G (k + 1) (.opn a o l true) K s = ∀ b,vm G k (.ops a l) K ⟨setD s.t o.dst (.c (.bool b)),s.h⟩:=propext Iff.rfl
theorem vm_opn_false {a:Array Oper} {o:Oper} {l:List Oper}:vm G (k + 1) (.opn a o l false) K s=vm G k (.opf a o l (fzIds G.E o.op s.t s.h)) K s:=propext Iff.rfl
theorem vm_opc {a:Array Oper} {o:Oper} {l:List Oper} {f:FuncId} {args:List AV}:vm G (k + 1) (.opc a o l (some (f,args))) K s=Cl G f args o a l K s:=propext Iff.rfl
theorem vm_opf_nil {a:Array Oper} {o:Oper} {l:List Oper}:vm G (k + 1) (.opf a o l []) K s=vm G k (.opv a o l (evOp G.E o.op o.type s.t s.h s.h.length)) K s:=propext Iff.rfl
theorem vm_opf_cons {a:Array Oper} {o:Oper} {l:List Oper} {id:Nat} {ids:List Nat}:vm G (k + 1) (.opf a o l (id :: ids)) K s=vm G k (.opx a o l (wantedA a (freezeIds (id :: ids) s).t o)) K (freezeIds (id :: ids) s):=propext Iff.rfl
theorem vm_opx {a:Array Oper} {o:Oper} {l:List Oper}:vm G (k + 1) (.opx a o l (some true)) K s=vm G k (.opv a o l (evOp G.E o.op o.type s.t s.h s.h.length)) K s:=propext Iff.rfl
theorem vm_opv {a:Array Oper} {o:Oper} {l:List Oper} {v:AV} {U:List (Nat × ABlk)}:vm G (k + 1) (.opv a o l (some (v,U))) K s=vm G k (.ops a l) K ⟨setD s.t o.dst v,app s.h U⟩:=propext Iff.rfl
theorem vm_opv_none {a:Array Oper} {o:Oper} {l:List Oper}:vm G (k + 1) (.opv a o l none) K s=False:=propext Iff.rfl
theorem vm_opv_if {a:Array Oper} {o:Oper} {l:List Oper} {p:Prop} [Decidable p] {x:Option (AV × List (Nat × ABlk))}:vm G (k + 1) (.opv a o l (if p then x else none)) K s=(p ∧ vm G (k + 1) (.opv a o l x) K s):=by
 by_cases h:p
 ·rw [if_pos h];simp [h]
 ·rw [if_neg h];simp [h,vm]
theorem vm_opv_ifn {a:Array Oper} {o:Oper} {l:List Oper} {p:Prop} [Decidable p] {x:Option (AV × List (Nat × ABlk))}:vm G (k + 1) (.opv a o l (if p then none else x)) K s=(¬ p ∧ vm G (k + 1) (.opv a o l x) K s):=by
 by_cases h:p
 ·rw [if_pos h];simp [h,vm]
 ·rw [if_neg h];simp [h]
theorem vm_opv_get {a:Array Oper} {o:Oper} {l:List Oper} {α:Type} {xs:List α} {i:Nat} {f:α → AV × List (Nat × ABlk)}:vm G (k + 1) (.opv a o l (xs[i]?.map f)) K s = ∃ h:i < xs.length,vm G (k + 1) (.opv a o l (some (f xs[i]))) K s:=by
 by_cases h:i < xs.length
 ·rw [List.getElem?_eq_getElem h];simp [h]
 ·rw [List.getElem?_eq_none (by omega)];simp [h,vm]
theorem Cl.of {f:FuncId} {args:List AV} {o:Oper} {a:Array Oper} {l:List Oper} {r:AV} {h':List ABlk} (T:TabOK G.P G.E) (k:Nat) (GG:Good G.P f args s.h r h') (h:vm G k (.ops a l) K ⟨setD s.t o.dst r,h'⟩):Cl G f args o a l K s:=fun hw hc=>by
 obtain ⟨c,fo,fv,args,caps,q1,q2,q3,q4,q5,rfl⟩:=callOf_spec hc
 exact Ahead.next (vm_sem T _ _ _ _ h) fun i rest hi hr=>RunOps.call hi hw q1 q2 q3 q5 q4 GG hr
theorem Cl.fz {f:FuncId} {args:List AV} {o:Oper} {a:Array Oper} {l:List Oper} (T:TabOK G.P G.E) (k:Nat) (ids:List Nat) (h:vm G k (.ops a (o :: l)) K (freezeIds ids s)):Cl G f args o a l K s:=fun _ _ pre hp =>
 RunOps.freezeIds ids (vm_sem T _ _ _ _ h pre hp)
theorem Cl.pure {f:FuncId} {args cs:List AV} {o:Oper} {a:Array Oper} {l:List Oper} {r:AV} (T:TabOK G.P G.E) (k:Nat) (GG:Good G.P f cs [] r []) (hs:snapAll s.h args=some cs) (hr:r.cl=true) (h:vm G k (.ops a l) K ⟨setD s.t o.dst r,after s.h args r⟩):Cl G f args o a l K s:=
 Cl.of T k (Good.pure GG hs hr) h
theorem Lp.of {c:Code} (T:TabOK G.P G.E) (k:Nat) (I:Nat → St → Prop) (m:Nat) (h0:I m s) (round:∀ m s,I m s → vm G k (.code c) (.lp (fun s'=>∃ j,j < m ∧ I j s') :: K) s):Lp G c K s:=
 Run.loop I m h0 fun m s1 hI=>vm_sem T _ _ _ _ (round m s1 hI)
theorem Lp.gc {c:Code} (T:TabOK G.P G.E) (k:Nat) (p q:Nat) (hq:G.n ≤ q) (I:Nat → St → Prop) (m:Nat) (h0:I m (Ev.gc p q s)) (round:∀ m s,I m s → vm G k (.code c) (.lp (fun s'=>∃ j,j < m ∧ I j (Ev.gc p q s')) :: K) s):Lp G c K s:=
 Run.loopGc p q hq I m h0 fun m s1 hI=>vm_sem T _ _ _ _ (round m s1 hI)
theorem vm_run {P:Program} {E:Env} (T:TabOK P E) {n:Nat} {c:Code} {Q:Exit → St → Prop} (k:Nat) (h:vm ⟨P,E,n,Q⟩ k (.code c) [] s):Run P n c Q s:=vm_sem (G:=⟨P,E,n,Q⟩) T _ _ _ _ h
theorem Lp.fz {c:Code} (ids:List Nat) (h:Lp G c K (freezeIds ids s)):Lp G c K s:=by
 have:∀ (ids:List Nat) (s:St),Lp G c K (freezeIds ids s) → Lp G c K s:=fun ids=>by
  induction ids with
  | nil=>intro s h;exact h
  | cons id ids ih=>intro s h;exact Run.freeze id (ih _ h)
 exact this ids s h
end
theorem Good.of_run2 {P:Program} {E:Env} (T:TabOK P E) {f:FuncId} {fn:Func} {c:Code} {args:List AV} {h h':List ABlk} {r:AV} (Fin:AV → List ABlk → Prop) (hf:P.funcs[f]?=some fn) (hb:fn.body=some c) (hn:(fn.name == "runtime.NumGoroutine")=false)
  (fin:∀ (X:Ent) (a:Act) (w:World) (v:AV) (k:List ABlk),X.h=h → Fin v k → Sim X ⟨[v],k⟩ a w → Sim X ⟨[r],h'⟩ a w)
  (hrun:Run P h.length c (fun e s=>(e = .normal ∨ e = .ret) ∧ ∃ v,resA E fn.results.toList s=some v ∧ Fin v s.h) ⟨args ++ List.replicate (fn.ntmps - args.length) .und,h⟩):Good P f args h r h':=by
 intro w N ρ vs H hsc hl hrep
 refine .inl ⟨by (have hn':¬ fn.name = "runtime.NumGoroutine":=by simpa using hn);simp [callFunc,go_sem,hf,hn',hb],?_⟩
 refine calls_of_wp hf hb ?_
 let X:Ent:=⟨N,h,ρ,w⟩
 have hs:Sim X ⟨args ++ List.replicate (fn.ntmps - args.length) .und,h⟩ { tmps:=vs.toArray ++ Array.replicate (fn.ntmps - vs.toArray.size) undef,defers:=[] } w:=by
  refine ⟨N,ρ,H,⟨by simp [hl],fun i v hv=>?_,H.glob⟩,?_,Kept.refl _ _ _ _,rfl⟩
  ·simp only at hv ⊢
   by_cases hlt:i < args.length
   ·rw [List.getElem?_append_left hlt,List.getElem?_eq_getElem hlt] at hv
    cases hv
    exact ⟨vs[i],by rw [Array.getElem?_append_left (by simp;omega)];simp [show i < vs.length by omega],hrep i hlt (by omega)⟩
   ·rw [List.getElem?_append_right (by omega)] at hv
    have h1:=List.getElem?_eq_some_iff.1 hv
    obtain ⟨h2,h3⟩:=h1
    simp only [List.getElem_replicate] at h3
    subst h3
    simp only [List.length_replicate] at h2
    refine ⟨undef,?_,.und⟩
    rw [Array.getElem?_append_right (by simp;omega)]
    simp only [List.size_toArray,Array.getElem?_replicate]
    rw [if_pos (by omega)]
  ·refine scAll_iff.2 fun x hx=>?_
   rcases List.mem_append.1 hx with h1 | h1
   ·exact scAll_iff.1 hsc x h1
   ·rw [(List.mem_replicate.1 h1).2];rfl
 refine wp_mono (hrun X _ _ (Nat.le_refl _) hs) ?_
 rintro e a' w' ⟨s',⟨N',ρ',S⟩,he,v,hr,hF⟩
 obtain ⟨x,hx,hrx,hsx⟩:=resA_sound T S hr
 have ho:OpOut N h ρ w r h' x w':=OpOut.sim.2 (fin ⟨N,h,ρ,w⟩ ⟨#[x],[]⟩ w' v s'.h rfl hF (OpOut.sim.1 ⟨⟨N',ρ',S.heap,hrx,S.kept,hsx⟩⟩))
 have out:a'.defers=[] ∧ ∃ v,(results fn a'.tmps).run P w' = .ok v w' ∧ ∃ v_1,Ending.returned v = .returned v_1 ∧ OpOut N h ρ w r h' v_1 w':=⟨S.defers,x,hx,x,rfl,ho⟩
 rcases he with rfl | rfl
 ·exact out
 ·exact out
theorem stays_gc {m:Nat} {r:AV} {h1:List ABlk} (hs:stays m r h1=true):gc 1 m ⟨[r],h1⟩=⟨[r],h1.take m⟩:=by
 simp only [stays,Bool.and_eq_true] at hs
 simp only [gc,List.take_succ_cons,List.take_zero,List.map_cons,List.map_nil,List.length_singleton,Nat.sub_self,List.replicate_zero,List.append_nil]
 rw [scrub_id hs.1]
 congr 1
 have:∀ l:List ABlk,(∀ x,x ∈ l → inB (born (h1.take m)) x=true) → l.map (scrubB (born (h1.take m)))=l:=fun l=>by
  induction l with
  | nil=>intro _;rfl
  | cons x l ih=>intro hl;simp only [List.map_cons];rw [scrubB_id (hl x (by simp)),ih fun y hy=>hl y (by simp [hy])]
 exact this _ (List.all_eq_true.1 hs.2)
def endS (E:Env) (rs:List ResultVar) (m:Nat) (r:AV) (h':List ABlk) (e:Exit) (s:St):Prop:=
 (e = .normal ∨ e = .ret) ∧ match freezeFrom m (s.h.length - m) s with
  | s1=>resA E rs s1=some r ∧ stays m r s1.h=true ∧ s1.h.take m=h'
def CLe (a b:CV):Prop:=∀ (w:World) (N:Nat → Prop) (v:Value),RepC w N a v → RepC w N b v
theorem CLe.refl (a:CV):CLe a a:=fun _ _ _ h=>h
theorem CLe.nl (sz:Nat) (x:Bool):CLe .nl (.lst sz x []):=fun w N v h=>by
 cases h
 exact RepC.lst sz x [] none 0 (fun _ _=>undef) (fun _=>rfl) (by simp) (by omega) (by simp) (fun j i hj=>absurd hj (by simp)) (fun j i hj=>absurd hj (by simp))
inductive CLes:List CV → List CV → Prop
 | nil:CLes [] []
 | cons {a b:CV} {l m:List CV} (h:CLe a b) (t:CLes l m):CLes (a :: l) (b :: m)
inductive CLess:List (List CV) → List (List CV) → Prop
 | nil:CLess [] []
 | cons {a b:List CV} {l m:List (List CV)} (h:CLes a b) (t:CLess l m):CLess (a :: l) (b :: m)
theorem CLes.refl:∀ l:List CV,CLes l l
 | []=>.nil
 | a :: l=>.cons (CLe.refl a) (CLes.refl l)
theorem CLess.refl:∀ l:List (List CV),CLess l l
 | []=>.nil
 | a :: l=>.cons (CLes.refl a) (CLess.refl l)
theorem CLes.len:∀ {l m:List CV},CLes l m → l.length=m.length
 | _,_,.nil=>rfl
 | _,_,.cons _ t=>by simp [t.len]
theorem CLess.len:∀ {l m:List (List CV)},CLess l m → l.length=m.length
 | _,_,.nil=>rfl
 | _,_,.cons _ t=>by simp [t.len]
theorem CLes.get:∀ {l m:List CV} (_:CLes l m) (i:Nat) (h1:i < l.length) (h2:i < m.length),CLe l[i] m[i]
 | _,_,.cons h _,0,_,_=>h
 | _,_,.cons _ t,i + 1,h1,h2=>t.get i (by simpa using h1) (by simpa using h2)
theorem CLess.get:∀ {l m:List (List CV)} (_:CLess l m) (i:Nat) (h1:i < l.length) (h2:i < m.length),CLes l[i] m[i]
 | _,_,.cons h _,0,_,_=>h
 | _,_,.cons _ t,i + 1,h1,h2=>t.get i (by simpa using h1) (by simpa using h2)
theorem CLe.lst {sz:Nat} {x:Bool} {y:Bool} {xs ys:List (List CV)} (hy:y=true → x=true) (h:CLess xs ys):CLe (.lst sz x xs) (.lst sz y ys):=fun w N v hv=>by
 cases hv with
 | lst _ _ _ A c V hx hc hm hsz hcell hrep =>
  have hl:=h.len
  rw [hl]
  refine .lst sz y ys A c V (fun e=>by rw [← hl];exact hx (hy e)) (by omega) hm (fun e he=>?_) (fun j i hj hi=>hcell j i (by omega) hi) (fun j i hj hi=>?_)
  ·obtain ⟨i,hi,rfl⟩:=List.getElem_of_mem he
   rw [← (h.get i (by omega) hi).len];exact hsz _ (List.getElem_mem _)
  ·have h1:=h.get j (by omega) hj
   exact h1.get i (by rw [h1.len];exact hi) hi _ _ _ (hrep j i (by omega) (by rw [h1.len];exact hi))
structure Le (a b:AV):Prop where
 rep:∀ (w:World) (N:Nat → Prop) (ρ:Nat → Pl) (v:Value),RepA w N ρ a v → RepA w N ρ b v
 sc:∀ q,a.sc q=true → b.sc q=true
theorem Le.refl (a:AV):Le a a:=⟨fun _ _ _ _ h=>h,fun _ h=>h⟩
theorem Le.of_eq {a b:AV} (h:a=b):Le a b:=h ▸ Le.refl a
theorem Le.refl_iff (a:AV):Le a a=True:=propext ⟨fun _=>trivial,fun _=>Le.refl a⟩
theorem Le.c {a b:CV} (h:CLe a b):Le (.c a) (.c b):=⟨fun w N ρ v hv=>by cases hv with | c hv=>exact .c (h w N v hv),fun _ _=>rfl⟩
inductive Les:List AV → List AV → Prop
 | nil:Les [] []
 | cons {a b:AV} {l m:List AV} (h:Le a b) (t:Les l m):Les (a :: l) (b :: m)
theorem Les.refl:∀ l:List AV,Les l l
 | []=>.nil
 | a :: l=>.cons (Le.refl a) (Les.refl l)
theorem Les.refl_iff (a:List AV):Les a a=True:=propext ⟨fun _=>trivial,fun _=>Les.refl a⟩
theorem Les.len:∀ {l m:List AV},Les l m → l.length=m.length
 | _,_,.nil=>rfl
 | _,_,.cons _ t=>by simp [t.len]
theorem Les.get:∀ {l m:List AV} (_:Les l m) (i:Nat) (h1:i < l.length) (h2:i < m.length),Le l[i] m[i]
 | _,_,.cons h _,0,_,_=>h
 | _,_,.cons _ t,i + 1,h1,h2=>t.get i (by simpa using h1) (by simpa using h2)
theorem Les.sc:∀ {l m:List AV} (_:Les l m) (q:Nat → Bool),AV.sc.scAll q l=true → AV.sc.scAll q m=true
 | _,_,.nil,_,h=>h
 | _,_,.cons h t,q,hs=>by
  simp only [AV.sc.scAll,Bool.and_eq_true] at hs ⊢
  exact ⟨h.sc q hs.1,t.sc q hs.2⟩
theorem Le.agg {l m:List AV} (h:Les l m):Le (.agg l) (.agg m):=⟨fun w N ρ v hv=>by
 cases hv with
 | agg _ vs hl hr=>exact .agg m vs (by rw [← h.len];exact hl) fun i a b=>(h.get i (by rw [h.len];exact a) a).rep _ _ _ _ (hr i _ b),fun q hs=>h.sc q hs⟩
theorem Le.tup {l m:List AV} (h:Les l m):Le (.tup l) (.tup m):=⟨fun w N ρ v hv=>by
 cases hv with
 | tup _ vs hl hr=>exact .tup m vs (by rw [← h.len];exact hl) fun i a b=>(h.get i (by rw [h.len];exact a) a).rep _ _ _ _ (hr i _ b),fun q hs=>h.sc q hs⟩
theorem Good.le_args {P:Program} {f:FuncId} {args args':List AV} {h h':List ABlk} {r:AV} (hle:Les args args') (G:Good P f args' h r h'):Good P f args h r h':=fun w N ρ vs H hs hl hr =>
 G w N ρ vs H (hle.sc _ hs) (by rw [← hle.len];exact hl) fun i h1 h2=>(hle.get i (by rw [hle.len];exact h1) h1).rep _ _ _ _ (hr i _ h2)
theorem Good.le {P:Program} {f:FuncId} {args:List AV} {h h':List ABlk} {r r':AV} (hle:Le r r') (G:Good P f args h r h'):Good P f args h r' h':=fun w N ρ vs H hs hl hr =>
 (G w N ρ vs H hs hl hr).mono fun v w' ⟨⟨N',ρ',H',hr',K,hsc⟩⟩=>⟨⟨N',ρ',H',hle.rep _ _ _ _ hr',K,hle.sc _ hsc⟩⟩
def Fit1 (a b:AV):Prop:=b = .dead ∨ Le a b
theorem Fit1_dead (a:AV):Fit1 a .dead=True:=propext ⟨fun _=>trivial,fun _=>.inl rfl⟩
theorem Fit1_self (a:AV):Fit1 a a=True:=propext ⟨fun _=>trivial,fun _=>.inr (Le.refl a)⟩
theorem Fit1.le {a b:AV} (h:Le a b):Fit1 a b:=.inr h
theorem Fit1.of_eq {a b:AV} (h:a=b):Fit1 a b:=.inr (Le.of_eq h)
def Fit:List AV → List AV → Prop
 | [],[]=>True
 | a :: l,b :: m=>Fit1 a b ∧ Fit l m
 | _,_=>False
theorem Fit.len:∀ {l m:List AV},Fit l m → l.length=m.length
 | [],[],_=>rfl
 | a :: l,b :: m,h=>by simp [Fit.len h.2]
 | [],_ :: _,h=>h.elim
 | _ :: _,[],h=>h.elim
theorem Fit.get:∀ {l m:List AV} (_:Fit l m) (i:Nat) (b:AV),m[i]?=some b → ∃ a,l[i]?=some a ∧ Fit1 a b
 | [],[],_,i,b,h=>by simp at h
 | a :: l,b :: m,h,0,c,hc=>by simp at hc;subst hc;exact ⟨a,rfl,h.1⟩
 | a :: l,b :: m,h,i + 1,c,hc=>by
  obtain ⟨x,h1,h2⟩:=Fit.get h.2 i c (by simpa using hc)
  exact ⟨x,by simpa using h1,h2⟩
 | [],_ :: _,h,_,_,_=>h.elim
 | _ :: _,[],h,_,_,_=>h.elim
def FitS (q:Nat) (s u:St):Prop:=Fit s.t u.t ∧ s.h.take q=u.h ∧ AV.sc.scAll (born u.h) u.t=true ∧ u.h.all (inB (born u.h))=true
theorem Sim.fit {X:Ent} {s u:St} {a:Act} {w:World} (hs:Sim X s a w) (q:Nat) (hq:X.h.length ≤ q) (hf:FitS q s u):Sim X u a w:=by
 obtain ⟨h1,h2,h3,h4⟩:=hf
 have hmono:∀ i,born u.h i=true → born s.h i=true:=fun i hi=>by
  rw [← h2] at hi
  have hlt:=born_lt hi
  rw [List.length_take] at hlt
  unfold born at hi ⊢
  rw [List.getElem?_take_of_lt (by omega)] at hi
  exact hi
 have s1:Sim X ⟨u.t,s.h⟩ a w:=by
  obtain ⟨N,ρ,S⟩:=hs
  refine ⟨N,ρ,S.heap,⟨by rw [← h1.len];exact S.slots.len,fun i v hv=>?_,S.slots.glob⟩,AV.sc_mono.all hmono _ h3,S.kept,S.defers⟩
  obtain ⟨v0,hv0,hl⟩:=h1.get i v hv
  obtain ⟨x,hx,hr⟩:=S.slots.rep i v0 hv0
  refine ⟨x,hx,?_⟩
  rcases hl with rfl | hl
  ·exact .dead _
  ·exact hl.rep _ _ _ _ hr
 have s2:=s1.gc u.t.length q hq
 have e:Ev.gc u.t.length q ⟨u.t,s.h⟩=u:=by
  have e1:∀ l:List AV,AV.sc.scAll (born u.h) l=true → l.map (scrub (born u.h))=l:=fun l=>by
   induction l with
   | nil=>intro _;rfl
   | cons x l ih =>
    intro hl
    simp only [AV.sc.scAll,Bool.and_eq_true] at hl
    simp only [List.map_cons];rw [scrub_id hl.1,ih hl.2]
  have e2:∀ l:List ABlk,l.all (inB (born u.h))=true → l.map (scrubB (born u.h))=l:=fun l=>by
   induction l with
   | nil=>intro _;rfl
   | cons x l ih =>
    intro hl
    simp only [List.all_cons,Bool.and_eq_true] at hl
    simp only [List.map_cons];rw [scrubB_id hl.1,ih hl.2]
  simp only [Ev.gc,List.take_length,h2,Nat.sub_self,List.replicate_zero,List.append_nil]
  rw [e1 _ h3,e2 _ h4]
 rw [e] at s2
 exact s2
theorem Lp.fit {G:Ctx} {K:List Fr} {s:St} {c:Code} (T:TabOK G.P G.E) (k:Nat) (q:Nat) (hq:G.n ≤ q) {α:Type} (μ:α → Nat) (I:α → Prop) (S:α → St) (a0:α) (h0:I a0) (hs:FitS q s (S a0))
  (round:∀ a,I a → vm G k (.code c) (.lp (fun s'=>∃ a',μ a' < μ a ∧ I a' ∧ FitS q s' (S a')) :: K) (S a)):Lp G c K s:=by
 refine Run.from (fun X a w hX hx=>hx.fit q (Nat.le_trans hX hq) hs) ?_
 refine Run.loop (fun m s1=>∃ a,m = μ a ∧ I a ∧ s1=S a) (μ a0) ⟨a0,rfl,h0,rfl⟩ ?_
 rintro m s1 ⟨a,rfl,ha,rfl⟩
 refine Run.turn (vm_sem T _ _ _ _ (round a ha)) fun e s2 X act w hX hq2 hs2=>?_
 cases e with
 | normal =>
  obtain ⟨a',h1,h2,h3⟩:=hq2
  exact ⟨_,hs2.fit q (Nat.le_trans hX hq) h3,_,h1,a',rfl,h2,rfl⟩
 | _=>exact ⟨s2,hs2,hq2⟩
attribute [go_sem] FitS Fit Fit1_dead Fit1_self
def ResL (o:Option AV) (m:Nat) (h:List ABlk) (r:AV):Prop:=∃ r1,o=some r1 ∧ stays m r1 h=true ∧ Le r1 r
theorem ResL_some (r1:AV) (m:Nat) (h:List ABlk) (r:AV):ResL (some r1) m h r=(stays m r1 h=true ∧ Le r1 r):=propext ⟨fun ⟨_,h1,h2⟩=>by cases h1;exact h2,fun h=>⟨_,rfl,h⟩⟩
def endL (E:Env) (rs:List ResultVar) (m:Nat) (r:AV) (h':List ABlk) (e:Exit) (s:St):Prop:=
 (e = .normal ∨ e = .ret) ∧ match freezeFrom m (s.h.length - m) s with
  | s1=>ResL (resA E rs s1) m s1.h r ∧ s1.h.take m=h'
attribute [go_sem] endL ResL_some Le.refl_iff Les.refl_iff
def slotOf:List Oper → Nat → Option Tmp
 | [],_=>none
 | o :: _,0=>o.dst
 | _ :: l,j + 1=>slotOf l j
def wantB (w:Bool):Option AV → Option Bool
 | some (.c (.bool b))=>some (b == w)
 | some .und=>some false
 | _=>none
def wantV (w:Bool) (t:List AV):Option Tmp → Option Bool
 | none=>none
 | some d=>wantB w t[d]?
theorem slotOf_eq:∀ (l:List Oper) (j:Nat),slotOf l j=(l[j]?).bind (·.dst)
 | [],j=>by simp [slotOf]
 | o :: l,0=>by simp [slotOf]
 | o :: l,j + 1=>by simp only [slotOf,slotOf_eq l j,List.getElem?_cons_succ]
theorem wantedA_none {a:Array Oper} {t:List AV} {d:Option Tmp} {op:Op} {ty:TypeId} {pos:String} {af:Array Edge}:wantedA a t ⟨d,op,ty,pos,af,none⟩=some true:=rfl
theorem wantedA_some {l:List Oper} {t:List AV} {d:Option Tmp} {op:Op} {ty:TypeId} {pos:String} {af:Array Edge} {j:Nat} {w:Bool}:wantedA l.toArray t ⟨d,op,ty,pos,af,some (j,w)⟩=wantV w t (slotOf l j):=by
 unfold wantedA
 simp only [List.getElem?_toArray,slotOf_eq]
 cases (l[j]?).bind (·.dst) with
 | none=>rfl
 | some d=>simp only [Option.bind_some,wantV,wantB];try rfl
def fixT (b:Bool) (t:List AV):Option Tmp → List AV
 | none=>t
 | some d=>t.set d (.c (.bool b))
def fixF (b:Bool) (t:List AV):Option Tmp → List AV
 | none=>t
 | some d=>match t[d]? with
  | some (.c (.bool _))=>t.set d (.c (.bool b))
  | _=>t
theorem wantV_true {w:Bool} {t:List AV} {d:Option Tmp} (h:wantV w t d=some true):fixT w t d=t:=by
 cases d with
 | none=>rfl
 | some d =>
  simp only [wantV] at h
  simp only [fixT]
  cases hd:t[d]? with
  | none=>rw [hd] at h;cases h
  | some v =>
   rw [hd] at h
   unfold wantB at h
   split at h
   ·rename_i b hb
    cases hb
    have:b=w:=by cases b <;> cases w <;> first | rfl | cases h
    subst this
    obtain ⟨h1,h2⟩:=List.getElem?_eq_some_iff.1 hd
    exact h2 ▸ List.set_getElem_self h1
   ·cases h
   ·cases h
theorem wantV_false {w:Bool} {t:List AV} {d:Option Tmp} (h:wantV w t d=some false):fixF (!w) t d=t:=by
 cases d with
 | none=>rfl
 | some d =>
  simp only [wantV] at h
  simp only [fixF]
  split
  ·rename_i b hd
   rw [hd] at h
   have:b = !w:=by simp only [wantB] at h;cases b <;> cases w <;> first | rfl | cases h
   subst this
   obtain ⟨h1,h2⟩:=List.getElem?_eq_some_iff.1 hd
   exact h2 ▸ List.set_getElem_self h1
  ·rfl
theorem vm_sym {G:Ctx} {k:Nat} {K:List Fr} {t:List AV} {h:List ABlk} {os l:List Oper} {d:Option Tmp} {op:Op} {ty:TypeId} {pos:String} {af:Array Edge} {j:Nat} {w b:Bool} (hw:wantV w t (slotOf os j)=some b)
  (h1:b=true → vm G k (.opg os.toArray ⟨d,op,ty,pos,af,some (j,w)⟩ l (goCall ⟨d,op,ty,pos,af,some (j,w)⟩)) K ⟨fixT w t (slotOf os j),h⟩)
  (h2:b=false → vm G k (.ops os.toArray l) K ⟨setD (fixF (!w) t (slotOf os j)) d .und,h⟩):vm G (k + 1) (.opw os.toArray ⟨d,op,ty,pos,af,some (j,w)⟩ l (some b)) K ⟨t,h⟩:=by
 cases b with
 | true =>
  have:=h1 rfl
  rw [wantV_true hw] at this
  exact this
 | false =>
  have:=h2 rfl
  rw [wantV_false hw] at this
  exact this
theorem beq_true' (b:Bool):(b == true)=b:=by cases b <;> rfl
theorem beq_false' (b:Bool):(b == false) = !b:=by cases b <;> rfl
theorem arr_get {α:Type} (l:List α) (i:Nat):(Array.mk l)[i]?=l[i]?:=List.getElem?_toArray
attribute [go_sem] arr_get List.replicate List.length_cons List.length_nil List.cons_append List.nil_append vm_skip vm_label vm_exit vm_goto vm_ret vm_seq vm_block vm_cond vm_loop vm_region vm_drawn vm_end vm_then vm_then_ret vm_then_exit vm_blk vm_blk_ret vm_blk_exit vm_lp vm_lp_ret vm_lp_exit vm_scope vm_scp vm_scp_ret vm_scp_exit vm_br_true vm_br_false vm_ops_nil vm_ops vm_opw_true vm_opw_false vm_opg_true vm_opg_false vm_opn_true vm_opn_false nilQ nilB emptyQ vm_opc vm_opf_nil vm_opf_cons vm_opx vm_opv vm_opv_none vm_opv_if vm_opv_ifn vm_opv_get wantedA_none wantedA_some fixT fixF slotOf wantV wantB beq_true' beq_false' Bool.not_true Bool.not_false beq_self_eq_true decide_true decide_false goCall fzIds vecT vecB idsIn slIds callOf fnOf argsA optA evOp opd litA litC Option.map_some Option.map_none Option.bind_some Option.bind_none setD app hput List.set_cons_zero List.set_cons_succ List.getElem?_cons_zero List.getElem?_cons_succ List.getElem?_nil ABlk.avs mapE aMakeMap aLookup aUpd aLenH aClear aDelete okPair entsOf keyOK mkPick setL fillA placesA parts isAggA oneOf asVar aLoad closeAllC closeC closeC.closeAll aStore addA aField aIndexAddr aPart aIndex boundA aSlice aSlice0 sliceOp sliceB aSliceArr chunk mkRows elemsOfV aBuildVec moreOfV aAppendV mapV aCopy aAppendZ isIntT aAppendT aLen aMakeSlice elemsOf aBuildSlice rowOf moreOf aAppend aFieldV intB strB shiftB isNil eqC nilOf nilEq plainEq fieldsEq eqRes aEq aBin aUn aConv okCell cellsOf snapAll snap after kill AV.cl AV.cl.clAll AV.flat AV.flat.flatAll CV.flat freezeFrom freeze frzV frzV.frzAll frzB freezeIds resOne resAll resTop resA stays endS inB AV.sc AV.sc.scAll born List.map_cons List.map_nil List.take_succ_cons List.take_zero List.take_nil List.drop_succ_cons List.drop_zero List.drop_nil List.all_cons List.all_nil Bool.and_true Bool.true_and Bool.and_false Bool.false_and List.flatMap_nil List.flatMap_cons
end Go.Ev
namespace Go.Ev
open Go.RowKit
variable [Globs]
abbrev Entry:=FuncId × List AV × AV
open Classical in
noncomputable def pick:List Entry → FuncId → List AV → Option AV
 | [],_,_=>none
 | e :: l,f,cs=>if f=e.1 ∧ cs=e.2.1 then some e.2.2 else pick l f cs
theorem pick_mem:∀ {l:List Entry} {f:FuncId} {cs:List AV} {r:AV},pick l f cs=some r → (f,cs,r) ∈ l
 | [],_,_,_,h=>by simp [pick] at h
 | e :: l,f,cs,r,h=>by
  simp only [pick] at h
  split at h
  ·rename_i hc
   obtain ⟨rfl,rfl⟩:=hc
   cases h
   exact List.mem_cons_self ..
  ·exact List.mem_cons_of_mem _ (pick_mem h)
theorem pick_hit {l:List Entry} {f:FuncId} {cs:List AV} {r:AV}:pick ((f,cs,r) :: l) f cs=some r:=by simp [pick]
theorem pick_next {l:List Entry} {f g:FuncId} {cs ds:List AV} {r:AV} (h:f ≠ g):pick ((g,ds,r) :: l) f cs=pick l f cs:=by simp [pick,h]
def notSl:AV → Bool
 | .sl _ _ _=>false
 | _=>true
theorem kill_notSl:∀ (args:List AV) (h:List ABlk),args.all notSl=true → kill h args=h
 | [],_,_=>rfl
 | v :: vs,h,hl=>by
  simp only [List.all_cons,Bool.and_eq_true] at hl
  cases v <;> first | (simp only [kill];exact kill_notSl vs h hl.2) | (simp [notSl] at hl)
noncomputable def orc (l:List Entry) (f:FuncId) (args:List AV) (h:List ABlk):Option AV:=match snapAll h args with
 | some cs=>match pick l f cs with
  | some r=>if r.flat || args.all notSl then some r else none
  | none=>none
 | none=>none
def Told (P:Program):List Entry → Prop
 | []=>True
 | e :: l=>(Good P e.1 e.2.1 [] e.2.2 [] ∧ e.2.2.cl=true) ∧ Told P l
theorem Told.mem {P:Program}:∀ {l:List Entry},Told P l → ∀ e,e ∈ l → Good P e.1 e.2.1 [] e.2.2 [] ∧ e.2.2.cl=true
 | [],_,e,h=>by cases h
 | x :: l,ht,e,h=>by
  rcases List.mem_cons.1 h with rfl | h
  ·exact ht.1
  ·exact Told.mem ht.2 e h
theorem orc_ok {P:Program} {l:List Entry} (ht:Told P l):Oracle P (orc l):=fun f args h r hr=>by
 unfold orc at hr
 split at hr
 ·rename_i cs hs
  split at hr
  ·rename_i r1 hp
   split at hr
   ·rename_i hc
    cases hr
    obtain ⟨g1,g2⟩:=ht.mem _ (pick_mem hp)
    have:=Good.pure g1 hs g2
    have e:after h args r=h:=by
     unfold after
     split
     ·rfl
     ·rename_i hf
      simp only [Bool.or_eq_true] at hc
      exact kill_notSl _ _ (hc.resolve_left hf)
    rw [e] at this
    exact this
   ·cases hr
  ·cases hr
 ·cases hr
inductive Dm where
 | ops (l:List Oper)
 | w (o:Oper) (l:List Oper) (w:Option Bool)
 | g (o:Oper) (l:List Oper) (b:Bool)
 | c (o:Oper) (l:List Oper) (c:Option (FuncId × List AV))
 | r (o:Oper) (l:List Oper) (R:List Nat) (r:Option AV)
 | v (o:Oper) (l:List Oper) (v:Option (AV × List (Nat × ABlk)))
 | p (o:Oper) (l:List Oper) (v:AV) (U:List (Nat × ABlk)) (b:Option ABlk)
def DEnd (G:Ctx) (a:Array Oper) (rs:List Rec) (K:List Fr) (s:St):Prop:=memOK a rs=true ∧ Sem G (.exit .normal) K ⟨s.t,trimU s.h⟩
theorem DEnd.of {G:Ctx} {a:Array Oper} {rs:List Rec} {K:List Fr} {s:St} (T:TabOK G.P G.E) (k:Nat) (hm:memOK a rs=true) (h:vm G k (.exit .normal) K ⟨s.t,trimU s.h⟩):DEnd G a rs K s:=⟨hm,vm_sem T _ _ _ _ h⟩
def dm (G:Ctx) (E:Env) (C:FuncId → List AV → List ABlk → Option AV) (a:Array Oper) (b m:Nat) (K:List Fr):Nat → Dm → Nat → List Rec → St → Prop
 | 0,_,_,_,_=>False
 | k + 1,.ops l,i,rs,s=>match l with
  | []=>DEnd G a rs K s
  | o :: l=>dm G E C a b m K k (.w o l (wantedA a s.t o)) i rs s
 | k + 1,.w o l w,i,rs,s=>match w with
  | some false=>dm G E C a b m K k (.p o l .und [] s.h[b + i]?) i rs s
  | some true=>dm G E C a b m K k (.g o l (goCall o)) i rs s
  | none=>False
 | k + 1,.g o l g,i,rs,s=>match g with
  | true=>dm G E C a b m K k (.c o l (callOf s.t o)) i rs s
  | false=>dm G E C a b m K k (.v o l (evOp E o.op o.type s.t s.h (b + i))) i rs s
 | k + 1,.c o l c,i,rs,s=>match c with
  | some (f,args)=>dm G E C a b m K k (.r o l (callReads s.h args) (C f args (mask (callReads s.h args) s.h))) i rs s
  | none=>False
 | k + 1,.r o l R r,i,rs,s=>match r with
  | some r=>r.sc (fun i=>R.contains i && born s.h i)=true ∧ dm G E C a b m K k (.p o l r [] s.h[b + i]?) i rs s
  | none=>False
 | k + 1,.v o l v,i,rs,s=>match v with
  | some p=>match closeRow E.cls o.op (b + i) p with
   | (v,U)=>U.all (fun p=>decide (p.1 < m))=true ∧ dm G E C a b m K k (.p o l v U s.h[b + i]?) i rs s
  | none=>False
 | k + 1,.p o l v U x,i,rs,s=>match x with
  | some .unborn=>dm G E C a b m K k (.ops l) (i + 1) (rs ++ [⟨v,U,(b + i) :: readsOf s o⟩]) ⟨setD s.t o.dst v,app s.h U⟩
  | _=>False
def DSem (G:Ctx) (E:Env) (C:FuncId → List AV → List ABlk → Option AV) (a:Array Oper) (b m:Nat) (K:List Fr) (l:List Oper) (i:Nat) (rs:List Rec) (s:St):Prop:=
 ∀ suf,a.toList.drop i=l ++ suf → i ≤ a.size → ∃ rs' s',runT E C a b m l.length i s=some (rs',s') ∧ DEnd G a (rs ++ rs') K s'
def DSemM (G:Ctx) (E:Env) (C:FuncId → List AV → List ABlk → Option AV) (a:Array Oper) (b m:Nat) (K:List Fr):Dm → Nat → List Rec → St → Prop
 | .ops l,i,rs,s=>DSem G E C a b m K l i rs s
 | .w o l w,i,rs,s=>wantedA a s.t o=w → DSem G E C a b m K (o :: l) i rs s
 | .g o l g,i,rs,s=>wantedA a s.t o=some true → goCall o=g → DSem G E C a b m K (o :: l) i rs s
 | .c o l c,i,rs,s=>wantedA a s.t o=some true → goCall o=true → callOf s.t o=c → DSem G E C a b m K (o :: l) i rs s
 | .r o l R r,i,rs,s=>(∀ r1,r=some r1 → r1.sc (fun i=>R.contains i && born s.h i)=true → act E C a o s (b + i)=some (r1,[])) → DSem G E C a b m K (o :: l) i rs s
 | .v o l v,i,rs,s=>wantedA a s.t o=some true → goCall o=false → evOp E o.op o.type s.t s.h (b + i)=v → DSem G E C a b m K (o :: l) i rs s
 | .p o l v U x,i,rs,s=>s.h[b + i]?=x → act E C a o s (b + i)=some (v,U) → U.all (fun p=>decide (p.1 < m))=true → DSem G E C a b m K (o :: l) i rs s
theorem dm_sem {G:Ctx} {E:Env} {C:FuncId → List AV → List ABlk → Option AV} {a:Array Oper} {b m:Nat} {K:List Fr}:∀ (k:Nat) (d:Dm) (i:Nat) (rs:List Rec) (s:St),dm G E C a b m K k d i rs s → DSemM G E C a b m K d i rs s:=by
 intro k
 induction k with
 | zero=>intro d i rs s h;exact h.elim
 | succ k ih =>
  intro d i rs s h
  cases d with
  | ops l =>
   cases l with
   | nil=>exact fun _ _ _=>⟨[],s,rfl,by rw [List.append_nil];exact h⟩
   | cons o l=>exact ih _ _ _ _ h rfl
  | w o l w =>
   intro hw
   simp only [dm] at h
   split at h
   ·exact ih _ _ _ _ h rfl (by unfold act;rw [hw]) rfl
   ·exact ih _ _ _ _ h hw rfl
   ·exact h.elim
  | g o l g =>
   intro hw hg
   simp only [dm] at h
   split at h
   ·exact ih _ _ _ _ h hw hg rfl
   ·exact ih _ _ _ _ h hw hg rfl
  | c o l c =>
   intro hw hg hc
   simp only [dm] at h
   split at h
   ·rename_i f args
    refine ih _ _ _ _ h fun r1 hr hs=>?_
    unfold act
    rw [hw]
    simp only [hg,if_true,hc]
    rw [hr]
    simp only [hs,if_true]
   ·exact h.elim
  | r o l R r =>
   intro ha
   simp only [dm] at h
   split at h
   ·rename_i r
    exact ih _ _ _ _ h.2 rfl (ha r rfl h.1) rfl
   ·exact h.elim
  | v o l v =>
   intro hw hg hv
   simp only [dm] at h
   split at h
   ·rename_i p
    refine ih _ _ _ _ h.2 rfl ?_ h.1
    unfold act
    rw [hw]
    simp only [hg,Bool.false_eq_true,if_false]
    unfold evOpC
    rw [hv]
    rfl
   ·exact h.elim
  | p o l v U x =>
   intro hx ha hU suf hd hi
   simp only [dm] at h
   split at h
   ·have hoi:a[i]?=some o:=by
     rw [← Array.getElem?_toList]
     have:=congrArg (fun l=>l[0]?) hd
     simpa [List.getElem?_drop] using this
    have hlt:i < a.size:=(Array.getElem?_eq_some_iff.1 hoi).1
    obtain ⟨rs',s',h1,h2⟩:=ih _ _ _ _ h suf (by
     have:=congrArg (List.drop 1) hd
     simpa [List.drop_drop] using this) hlt
    refine ⟨⟨v,U,(b + i) :: readsOf s o⟩ :: rs',s',?_,?_⟩
    ·simp only [List.length_cons,runT]
     rw [hoi]
     simp only [ha,hx,hU,if_true,h1]
    ·simpa using h2
   ·exact h.elim
theorem Dr.ofE {G:Ctx} {E:Env} {a:Array Oper} {K:List Fr} {s:St} (T:TabOK G.P E) (hsl:slotsOK a=true) (l:List Entry) (ht:Told G.P l)
  (h:dm G E (orc l) a s.h.length (s.h.length + a.size) K (10 * a.size + 10) (.ops a.toList) 0 [] ⟨s.t,s.h ++ List.replicate a.size .unborn⟩):Dr G a K s:=fun id=>by
 obtain ⟨rs,s1,h1,hm,h2⟩:=dm_sem _ _ _ _ _ h [] (by rw [List.drop_zero,List.append_nil]) (Nat.zero_le _)
 refine Run.drawn T (orc_ok ht) hsl (s':=⟨s1.t,trimU s1.h⟩) ?_ h2
 unfold Ev.drawn
 simp only [List.length_append,List.length_replicate]
 rw [Array.length_toList] at h1
 rw [h1]
 simp only [List.nil_append] at hm
 simp only [hm,if_true]
theorem Dr.tailE {G:Ctx} {E:Env} {a:Array Oper} {K:List Fr} {s:St} (T:TabOK G.P E) (n:Nat) (hsl:slotsOK a=true) (htl:tailOK a n=true) (l:List Entry) (ht:Told G.P l)
  (h:dm G E (orc l) a s.h.length (s.h.length + a.size) (.lp (Ahead G a (a.toList.drop n) K) :: K) (10 * a.size + 10) (.ops (a.toList.take n)) 0 [] ⟨s.t,s.h ++ List.replicate a.size .unborn⟩):Dr G a K s:=fun id=>by
 obtain ⟨hn,_⟩:=tailOK_spec htl
 obtain ⟨rs,s1,h1,hm,h2⟩:=dm_sem _ _ _ _ _ h (a.toList.drop n) (by rw [List.drop_zero,List.take_append_drop]) (Nat.zero_le _)
 have hln:(a.toList.take n).length=n:=by simp;omega
 refine Run.drawnTail T (orc_ok ht) hsl htl (s':=⟨s1.t,trimU s1.h⟩) ?_ ?_
 ·unfold Ev.drawnHead
  simp only [List.length_append,List.length_replicate]
  rw [hln] at h1
  rw [h1]
  simp only [List.nil_append] at hm
  simp only [hm,if_true]
 ·have:=h2 (a.toList.take n) (by rw [List.take_append_drop])
  rw [hln] at this
  simpa using this
theorem Dr.tail {G:Ctx} {a:Array Oper} {K:List Fr} {s:St} (T:TabOK G.P G.E) (n:Nat) (hsl:slotsOK a=true) (htl:tailOK a n=true) (l:List Entry) (ht:Told G.P l)
  (h:dm G G.E (orc l) a s.h.length (s.h.length + a.size) (.lp (Ahead G a (a.toList.drop n) K) :: K) (10 * a.size + 10) (.ops (a.toList.take n)) 0 [] ⟨s.t,s.h ++ List.replicate a.size .unborn⟩):Dr G a K s:=Dr.tailE T n hsl htl l ht h
theorem DEnd.tail {G:Ctx} {a:Array Oper} {rs:List Rec} {l:List Oper} {K:List Fr} {s:St} (T:TabOK G.P G.E) (k:Nat) (hm:memOK a rs=true) (h:vm G k (.ops a l) K ⟨s.t,trimU s.h⟩):DEnd G a rs (.lp (Ahead G a l K) :: K) s:=⟨hm,vm_sem T k (.ops a l) K _ h⟩
theorem Lp.trunc {G:Ctx} {c:Code} {K:List Fr} {s:St} (id k:Nat) (h:Lp G c K (Ev.trunc id k s)):Lp G c K s:=Run.trunc id k h
theorem TabOK.cls {P:Program} {E:Env} (T:TabOK P E):TabOK P { E with cls:=true }:=⟨T.und,T.size,T.bytes,T.zero,T.zval,T.cmp,T.mixed⟩
theorem Dr.of {G:Ctx} {a:Array Oper} {K:List Fr} {s:St} (T:TabOK G.P G.E) (hsl:slotsOK a=true) (l:List Entry) (ht:Told G.P l)
  (h:dm G G.E (orc l) a s.h.length (s.h.length + a.size) K (10 * a.size + 10) (.ops a.toList) 0 [] ⟨s.t,s.h ++ List.replicate a.size .unborn⟩):Dr G a K s:=Dr.ofE T hsl l ht h
theorem Dr.ofC {G:Ctx} {a:Array Oper} {K:List Fr} {s:St} (T:TabOK G.P G.E) (hsl:slotsOK a=true) (l:List Entry) (ht:Told G.P l)
  (h:dm G { G.E with cls:=true } (orc l) a s.h.length (s.h.length + a.size) K (10 * a.size + 10) (.ops a.toList) 0 [] ⟨s.t,s.h ++ List.replicate a.size .unborn⟩):Dr G a K s:=Dr.ofE T.cls hsl l ht h
section
variable {G:Ctx} {E:Env} {C:FuncId → List AV → List ABlk → Option AV} {a:Array Oper} {b m k i:Nat} {K:List Fr} {rs:List Rec} {s:St}
theorem dm_nil:dm G E C a b m K (k + 1) (.ops []) i rs s=DEnd G a rs K s:=propext Iff.rfl
theorem dm_ops {o:Oper} {l:List Oper}:dm G E C a b m K (k + 1) (.ops (o :: l)) i rs s=dm G E C a b m K k (.w o l (wantedA a s.t o)) i rs s:=propext Iff.rfl
theorem dm_w_false {o:Oper} {l:List Oper}:dm G E C a b m K (k + 1) (.w o l (some false)) i rs s=dm G E C a b m K k (.p o l .und [] s.h[b + i]?) i rs s:=propext Iff.rfl
theorem dm_w_true {o:Oper} {l:List Oper}:dm G E C a b m K (k + 1) (.w o l (some true)) i rs s=dm G E C a b m K k (.g o l (goCall o)) i rs s:=propext Iff.rfl
theorem dm_g_true {o:Oper} {l:List Oper}:dm G E C a b m K (k + 1) (.g o l true) i rs s=dm G E C a b m K k (.c o l (callOf s.t o)) i rs s:=propext Iff.rfl
theorem dm_g_false {o:Oper} {l:List Oper}:dm G E C a b m K (k + 1) (.g o l false) i rs s=dm G E C a b m K k (.v o l (evOp E o.op o.type s.t s.h (b + i))) i rs s:=propext Iff.rfl
theorem dm_c {o:Oper} {l:List Oper} {f:FuncId} {args:List AV}:dm G E C a b m K (k + 1) (.c o l (some (f,args))) i rs s=dm G E C a b m K k (.r o l (callReads s.h args) (C f args (mask (callReads s.h args) s.h))) i rs s:=propext Iff.rfl
theorem dm_r {o:Oper} {l:List Oper} {R:List Nat} {r:AV}:dm G E C a b m K (k + 1) (.r o l R (some r)) i rs s=(r.sc (fun i=>R.contains i && born s.h i)=true ∧ dm G E C a b m K k (.p o l r [] s.h[b + i]?) i rs s):=propext Iff.rfl
def dmP (G:Ctx) (E:Env) (C:FuncId → List AV → List ABlk → Option AV) (a:Array Oper) (b m:Nat) (K:List Fr) (k:Nat) (o:Oper) (l:List Oper) (i:Nat) (rs:List Rec) (s:St) (p:AV × List (Nat × ABlk)):Prop:=p.2.all (fun p=>decide (p.1 < m))=true ∧ dm G E C a b m K k (.p o l p.1 p.2 s.h[b + i]?) i rs s
theorem dm_v {o:Oper} {l:List Oper} {p:AV × List (Nat × ABlk)}:dm G E C a b m K (k + 1) (.v o l (some p)) i rs s=dmP G E C a b m K k o l i rs s (closeRow E.cls o.op (b + i) p):=propext Iff.rfl
theorem dmP_mk {o:Oper} {l:List Oper} {v:AV} {U:List (Nat × ABlk)}:dmP G E C a b m K k o l i rs s (v,U)=(U.all (fun p=>decide (p.1 < m))=true ∧ dm G E C a b m K k (.p o l v U s.h[b + i]?) i rs s):=propext Iff.rfl
theorem dm_p {o:Oper} {l:List Oper} {v:AV} {U:List (Nat × ABlk)}:dm G E C a b m K (k + 1) (.p o l v U (some .unborn)) i rs s=dm G E C a b m K k (.ops l) (i + 1) (rs ++ [⟨v,U,(b + i) :: readsOf s o⟩]) ⟨setD s.t o.dst v,app s.h U⟩:=propext Iff.rfl
theorem dm_v_if {o:Oper} {l:List Oper} {p:Prop} [Decidable p] {x:Option (AV × List (Nat × ABlk))}:dm G E C a b m K (k + 1) (.v o l (if p then x else none)) i rs s=(p ∧ dm G E C a b m K (k + 1) (.v o l x) i rs s):=by
 by_cases h:p
 ·rw [if_pos h];simp [h]
 ·rw [if_neg h];simp [h,dm]
theorem dm_v_ifn {o:Oper} {l:List Oper} {p:Prop} [Decidable p] {x:Option (AV × List (Nat × ABlk))}:dm G E C a b m K (k + 1) (.v o l (if p then none else x)) i rs s=(¬ p ∧ dm G E C a b m K (k + 1) (.v o l x) i rs s):=by
 by_cases h:p
 ·rw [if_pos h];simp [h,dm]
 ·rw [if_neg h];simp [h]
end
theorem memOK_quiet {a:Array Oper} {rs:List Rec} (h:rs.all (fun r=>r.U.isEmpty)=true):memOK a rs=true:=by unfold memOK;rw [h];rfl
attribute [go_sem] dm_nil dm_ops dm_w_false dm_w_true dm_g_true dm_g_false dm_c dm_r dm_v dmP_mk closeRow dm_p dm_v_if dm_v_ifn orc pick_hit notSl List.nil_append Bool.or_true Bool.true_or Bool.or_false Bool.false_or List.size_toArray callReads reach allIds allIds.all blkIds mask maskFrom trimU isUnborn List.isEmpty_nil List.isEmpty_cons
end Go.Ev
namespace Go.Ev
open Go.RowKit
variable [Globs]
def mkFn (f:FuncId) (l:List AV):AV:=match closeAllC l with
 | some cs=>.c (.fn f cs)
 | none=>.fn f l
theorem mkFn_rep {w:World} {N:Nat → Prop} {ρ:Nat → Pl} {f:FuncId} {l:List AV} {x:Value} (h:RepA w N ρ (.fn f l) x):RepA w N ρ (mkFn f l) x:=by
 unfold mkFn
 split
 ·rename_i cs hcs
  have hc:closeC (.fn f l)=some (.fn f cs):=by simp only [closeC];unfold closeAllC at hcs;rw [hcs];rfl
  exact .c (closeC_rep _ _ _ hc h)
 ·exact h
theorem mkFn_sc {q:Nat → Bool} {f:FuncId} {l:List AV} (h:AV.sc.scAll q l=true):(mkFn f l).sc q=true:=by
 unfold mkFn;split
 ·rfl
 ·exact h
def frzPV (id:Nat) (us:List CV):AV → AV
 | .ptr i off=>if i=id then (if off ≤ us.length then .rd (us.drop off) else .dead) else .ptr i off
 | .agg vs=>.agg (all id us vs)
 | .tup vs=>.tup (all id us vs)
 | .ifc t v=>.ifc t (frzPV id us v)
 | .fn f vs=>mkFn f (all id us vs)
 | v=>v
where
 all (id:Nat) (us:List CV):List AV → List AV
  | []=>[]
  | v :: vs=>frzPV id us v :: all id us vs
def frzPB (id:Nat) (us:List CV):ABlk → ABlk
 | .box cs=>.box (frzPV.all id us cs)
 | .mp es c=>.mp (mapE (frzPV id us) es) c
 | .vec sz e ys=>.vec sz e (mapV (frzPV id us) ys)
 | k=>k
def freezeP (id:Nat) (s:St):St:=match s.h[id]? with
 | some (.box cs)=>match closeAllC cs with
  | some us=>⟨frzPV.all id us s.t,(s.h.map (frzPB id us)).set id .gone⟩
  | none=>s
 | _=>freeze id s
theorem frzP_length (id:Nat) (us:List CV):∀ l:List AV,(frzPV.all id us l).length=l.length
 | []=>rfl
 | v :: l=>by simp [frzPV.all,frzP_length id us l]
theorem frzP_get (id:Nat) (us:List CV):∀ (l:List AV) (i:Nat),(frzPV.all id us l)[i]?=(l[i]?).map (frzPV id us)
 | [],i=>by simp [frzPV.all]
 | v :: l,0=>by simp [frzPV.all]
 | v :: l,i + 1=>by simp [frzPV.all,frzP_get id us l i]
theorem frzP_mem {id:Nat} {us:List CV} {l:List AV} {x:AV} (h:x ∈ frzPV.all id us l):∃ y,y ∈ l ∧ x=frzPV id us y:=by
 obtain ⟨i,hi⟩:=List.mem_iff_getElem?.1 h
 rw [frzP_get] at hi
 obtain ⟨y,hy,rfl⟩:=Option.map_eq_some_iff.1 hi
 exact ⟨y,List.mem_of_getElem? hy,rfl⟩
theorem frzP_sc (id:Nat) (us:List CV) (q:Nat → Bool):∀ v:AV,v.sc q=true → (frzPV id us v).sc q=true
 | .c _,_ | .rd _,_ | .und,_ | .dead,_=>rfl
 | .sl _ _ _,h | .er _ _ _,h | .es _ _ _ _,h | .mp _,h=>h
 | .ifc _ v,h=>frzP_sc id us q v h
 | .ptr i off,h=>by
  simp only [frzPV];split
  ·split <;> rfl
  ·exact h
 | .agg vs,h | .tup vs,h=>all vs h
 | .fn _ vs,h=>mkFn_sc (all vs h)
where
 all:∀ vs:List AV,AV.sc.scAll q vs=true → AV.sc.scAll q (frzPV.all id us vs)=true
  | [],_=>rfl
  | v :: vs,h=>by
   simp only [AV.sc.scAll,Bool.and_eq_true] at h
   simp only [frzPV.all,AV.sc.scAll,Bool.and_eq_true]
   exact ⟨frzP_sc id us q v h.1,all vs h.2⟩
theorem frzP_rep {N:Nat → Prop} {h:List ABlk} {ρ:Nat → Pl} {w:World} (H:HeapOK N h ρ w) {id:Nat} {bs:List AV} {us:List CV} (hk:h[id]?=some (.box bs)) (hus:closeAllC bs=some us) {v:AV} {x:Value} (hr:RepA w N ρ v x) (q:Nat → Bool) (hq:v.sc q=true) :
  RepA w (fun b=>N b ∨ (owns h ρ id ∧ (ρ id).b=b)) ρ (frzPV id us v) x:=by
 have hN:∀ b,N b → (fun b=>N b ∨ (owns h ρ id ∧ (ρ id).b=b)) b ∧ w.heap[b]?=w.heap[b]?:=fun b hb=>⟨.inl hb,rfl⟩
 have same:∀ {v:AV} {x:Value},RepA w N ρ v x → v.sc (fun _=>true)=true → RepA w (fun b=>N b ∨ (owns h ρ id ∧ (ρ id).b=b)) ρ v x:=fun h1 h2=>h1.mono (q:=fun _=>true) h2 hN fun _ _=>rfl
 induction hr with
 | c h=>exact .c (h.mono hN)
 | agg ws vs hl h ih =>
  refine .agg _ vs (by rw [frzP_length];exact hl) fun i a b=>?_
  have a':i < ws.length:=by rw [frzP_length] at a;exact a
  have e1:(frzPV.all id us ws)[i]=frzPV id us ws[i]:=by
   have:=frzP_get id us ws i
   rw [List.getElem?_eq_getElem a,List.getElem?_eq_getElem a'] at this
   simpa using this
  rw [e1]
  exact ih i a' b (scAll_get hq a')
 | tup ws vs hl h ih =>
  refine .tup _ vs (by rw [frzP_length];exact hl) fun i a b=>?_
  have a':i < ws.length:=by rw [frzP_length] at a;exact a
  have e1:(frzPV.all id us ws)[i]=frzPV id us ws[i]:=by
   have:=frzP_get id us ws i
   rw [List.getElem?_eq_getElem a,List.getElem?_eq_getElem a'] at this
   simpa using this
  rw [e1]
  exact ih i a' b (scAll_get hq a')
 | fn f ws vs hl h ih =>
  refine mkFn_rep (.fn f _ vs (by rw [frzP_length];exact hl) fun i a b=>?_)
  have a':i < ws.length:=by rw [frzP_length] at a;exact a
  have e1:(frzPV.all id us ws)[i]=frzPV id us ws[i]:=by
   have:=frzP_get id us ws i
   rw [List.getElem?_eq_getElem a,List.getElem?_eq_getElem a'] at this
   simpa using this
  rw [e1]
  exact ih i a' b (scAll_get hq a')
 | ptr i off =>
  simp only [frzPV];split
  ·rename_i e;subst e
   split
   ·rename_i hle
    obtain ⟨hph,hbase,vs,t,fr,hh,hf,hl,hc⟩:=H.own i _ hk
    have hown:owns h ρ i:=⟨⟨_,hk,by simp,by simp⟩,hph⟩
    rw [hbase,Nat.zero_add]
    refine .rd _ _ _ (.inr ⟨hown,rfl⟩) fun k a=>?_
    rw [List.length_drop] at a
    have hul:=closeAll_length hus
    have hlt:off + k < bs.length:=by omega
    obtain ⟨y,hy,hry⟩:=hc (off + k) hlt
    have hcl:=closeAll_get hus (off + k) hlt (by omega)
    refine ⟨y,by rw [cell_of_block hh];exact hy,?_⟩
    rw [List.getElem_drop]
    exact (closeC_rep _ _ _ hcl hry).mono hN
   ·exact .dead _
  ·exact .ptr i off
 | mp i=>exact .mp i
 | sn i hp=>exact .sn i hp
 | sl i off len cap o hp ho h1 h2 hm=>exact .sl i off len cap o hp ho h1 h2 hm
 | er i j o=>exact .er i j o
 | es i j o n cap hph h1 hm=>exact .es i j o n cap hph h1 hm
 | ifc t v x h ih=>exact .ifc t _ x (ih hq)
 | rd cs b o hb hc=>exact same (.rd cs b o hb hc) rfl
 | und=>exact .und
 | dead x=>exact .dead x
theorem Sim.freezeP {X:Ent} {s:St} {a:Act} {w:World} (id:Nat) (hs:Sim X s a w):Sim X (freezeP id s) a w:=by
 unfold Ev.freezeP
 split
 case h_2=>exact hs.freeze id
 rename_i bs hk
 split
 case h_2=>exact hs
 rename_i us hus
 obtain ⟨N,ρ,S⟩:=hs
 have H:=S.heap
 have hid:id < s.h.length:=(List.getElem?_eq_some_iff.1 hk).1
 have hN:∀ b,N b → (fun b=>N b ∨ (owns s.h ρ id ∧ (ρ id).b=b)) b ∧ w.heap[b]?=w.heap[b]?:=fun b hb=>⟨.inl hb,rfl⟩
 have hget:∀ i k',((s.h.map (frzPB id us)).set id .gone)[i]?=some k' → (i=id ∧ k' = .gone) ∨ (i ≠ id ∧ ∃ k0,s.h[i]?=some k0 ∧ k'=frzPB id us k0):=fun i k' hk'=>by
  by_cases e:i=id
  ·subst e
   rw [List.getElem?_set_self (by simpa using hid)] at hk'
   cases hk';exact .inl ⟨rfl,rfl⟩
  ·rw [List.getElem?_set_ne (Ne.symm e),List.getElem?_map] at hk'
   obtain ⟨k0,h0,rfl⟩:=Option.map_eq_some_iff.1 hk'
   exact .inr ⟨e,k0,h0,rfl⟩
 have hown:∀ i,owns ((s.h.map (frzPB id us)).set id .gone) ρ i → i ≠ id ∧ owns s.h ρ i:=fun i ⟨⟨k',hk',h1,h2⟩,hp⟩=>by
  rcases hget i k' hk' with ⟨_,rfl⟩ | ⟨hne,k0,h0,rfl⟩
  ·simp at h1
  ·exact ⟨hne,⟨k0,h0,fun e=>h1 (by rw [e];rfl),fun e=>h2 (by rw [e];rfl)⟩,hp⟩
 have hborn:∀ i,born s.h i=true → born ((s.h.map (frzPB id us)).set id .gone) i=true:=fun i hi=>by
  by_cases e:i=id
  ·subst e;simp [born,hid]
  ·unfold born at *
   rw [List.getElem?_set_ne (Ne.symm e),List.getElem?_map]
   cases h0:s.h[i]? with
   | none=>rw [h0] at hi;cases hi
   | some k=>rw [h0] at hi;cases k <;> first | rfl | cases hi
 refine ⟨fun b=>N b ∨ (owns s.h ρ id ∧ (ρ id).b=b),ρ,⟨?_,fun i j hi hj=>H.inj i j (hown i hi).2 (hown j hj).2,fun i hi hb=>?_,fun i k' hk'=>?_,fun i cs hk'=>?_,H.glob.mono hN⟩,⟨by simp [frzP_length,S.slots.len],fun i v hv=>?_,H.glob.mono hN⟩,?_,?_,S.defers⟩
 ·rintro b (hb | ⟨ho,rfl⟩)
  ·exact H.lt b hb
  ·exact own_lt H ho
 ·rcases hb with hb | ⟨ho,he⟩
  ·exact H.apart i (hown i hi).2 hb
  ·exact (hown i hi).1 (H.inj i id (hown i hi).2 ho he.symm)
 ·rcases hget i k' hk' with ⟨_,rfl⟩ | ⟨hne,k0,h0,rfl⟩
  ·trivial
  ·have:=H.own i k0 h0
   cases k0 with
   | box cs =>
    obtain ⟨h1,h2,vs,t,fr,hh,hf,hl,hc⟩:=this
    refine ⟨h1,h2,vs,t,fr,hh,hf,by simp [frzP_length,hl],fun j hj=>?_⟩
    have hj':j < cs.length:=by rw [frzP_length] at hj;exact hj
    obtain ⟨x,hx,hr⟩:=hc j hj'
    refine ⟨x,hx,?_⟩
    have e1:(frzPV.all id us cs)[j]=frzPV id us cs[j]:=by
     have:=frzP_get id us cs j
     rw [List.getElem?_eq_getElem hj,List.getElem?_eq_getElem hj'] at this
     simpa using this
    rw [e1]
    exact frzP_rep H hk hus hr _ (scAll_get (H.scope i _ h0) hj')
   | rows sz' e' ys =>
    exact this.mono (q:=born s.h) rfl (fun _ _ _=>rfl) hN (fun _ _=>rfl)
   | mp es c=>exact this.mapE rfl hN fun v hv x hx=>frzP_rep H hk hus hx _ (scAll_iff.1 (H.scope i _ h0) v hv)
   | vec sz e ys=>exact this.mapV rfl fun v hv x hx=>frzP_rep H hk hus hx _ (scAll_iff.1 (H.scope i _ h0) v hv)
   | gone=>trivial
   | unborn=>trivial
 ·rcases hget i _ hk' with ⟨_,rfl⟩ | ⟨hne,k0,h0,h1⟩
  ·rfl
  ·cases k0 with
   | box cs0 =>
    cases h1
    refine scAll_iff.2 fun x hx=>?_
    obtain ⟨y,hy,rfl⟩:=frzP_mem hx
    exact frzP_sc id us _ y (AV.sc_mono hborn y (scAll_iff.1 (H.scope i _ h0) y hy))
   | mp es c =>
    cases h1
    exact mapE_avs fun y hy=>frzP_sc id us _ y (AV.sc_mono hborn y (scAll_iff.1 (H.scope i _ h0) y hy))
   | vec sz e ys =>
    cases h1
    exact mapV_avs fun y hy=>frzP_sc id us _ y (AV.sc_mono hborn y (scAll_iff.1 (H.scope i _ h0) y hy))
   | _=>cases h1;rfl
 ·simp only at hv
  rw [frzP_get] at hv
  obtain ⟨v0,h0,rfl⟩:=Option.map_eq_some_iff.1 hv
  obtain ⟨x,hx,hr⟩:=S.slots.rep i v0 h0
  exact ⟨x,hx,frzP_rep H hk hus hr _ (scAll_iff.1 S.sc _ (List.mem_of_getElem? h0))⟩
 ·refine scAll_iff.2 fun x hx=>?_
  obtain ⟨y,hy,rfl⟩:=frzP_mem hx
  exact frzP_sc id us _ y (AV.sc_mono hborn y (scAll_iff.1 S.sc y hy))
 ·have K:=S.kept
  refine ⟨K.os,K.tape,K.output,K.size,fun i hi=>⟨hborn i (K.rho i hi).1,(K.rho i hi).2⟩,fun b hb=>⟨.inl (K.stay b hb).1,(K.stay b hb).2⟩,?_,K.rest,fun i hi=>K.new i (hown i hi).2⟩
  rintro b (hb | ⟨ho,rfl⟩)
  ·exact K.from_ b hb
  ·rcases K.new id ho with h1 | ⟨j,hj,h1⟩
   ·exact .inr (.inl h1)
   ·exact .inr (.inr ⟨j,hj,h1⟩)
def freezePs:Nat → Nat → St → St
 | _,0,s=>s
 | m,n + 1,s=>freezePs (m + 1) n (freezeP m s)
theorem Sim.freezePs {X:Ent} {a:Act} {w:World}:∀ (n m:Nat) {s:St},Sim X s a w → Sim X (freezePs m n s) a w
 | 0,_,_,h=>h
 | n + 1,m,_,h=>Sim.freezePs n (m + 1) (h.freezeP m)
def shutR (m:Nat) (v:AV) (h:List ABlk):AV × List ABlk:=match v.cl with
 | true=>(v,h)
 | false=>match freezePs m (h.length - m) ⟨[v],h⟩ with
  | ⟨[v'],k⟩=>(v',k)
  | _=>(v,h)
def EndR (o:Option AV) (m:Nat) (h:List ABlk) (r:AV) (h':List ABlk):Prop:=∃ v,o=some v ∧ stays m (shutR m v h).1 (shutR m v h).2=true ∧ Le (shutR m v h).1 r ∧ (shutR m v h).2.take m=h'
def End2 (m:Nat) (p:AV × List ABlk) (r:AV) (h':List ABlk):Prop:=stays m p.1 p.2=true ∧ Le p.1 r ∧ p.2.take m=h'
theorem EndR_some {v:AV} {m:Nat} {h:List ABlk} {r:AV} {h':List ABlk}:EndR (some v) m h r h'=End2 m (shutR m v h) r h':=propext ⟨fun ⟨_,h1,h2⟩=>by cases h1;exact h2,fun h=>⟨_,rfl,h⟩⟩
def endQ (E:Env) (rs:List ResultVar) (m:Nat) (r:AV) (h':List ABlk) (e:Exit) (s:St):Prop:=
 (e = .normal ∨ e = .ret) ∧ EndR (resA E rs s) m s.h r h'
theorem Good.of_vmQ {P:Program} {E:Env} (T:TabOK P E) (k:Nat) {f:FuncId} {fn:Func} {c:Code} {args:List AV} {h h':List ABlk} {r:AV} (hf:P.funcs[f]?=some fn) (hb:fn.body=some c) (hn:(fn.name == "runtime.NumGoroutine")=false)
  (hv:vm ⟨P,E,h.length,endQ E fn.results.toList h.length r h'⟩ k (.code c) [] ⟨args ++ List.replicate (fn.ntmps - args.length) .und,h⟩):Good P f args h r h':=by
 refine Good.of_run2 T (fun v k=>End2 h.length (shutR h.length v k) r h') hf hb hn ?_ ((vm_run T k hv).mono fun e s1 hq=>?_)
 ·rintro X a w v k hX ⟨h1,h2,h3⟩ hs
  have h4:Sim X ⟨[(shutR h.length v k).1],(shutR h.length v k).2⟩ a w:=by
   unfold shutR
   split
   ·exact hs
   ·have:=hs.freezePs (k.length - h.length) h.length
    split
    ·rename_i v' k' he
     rw [he] at this;exact this
    ·exact hs
  have h5:=h4.gc 1 h.length (by rw [hX];exact Nat.le_refl _)
  rw [stays_gc h1,h3] at h5
  obtain ⟨N,ρ,S⟩:=h5
  refine ⟨N,ρ,S.heap,⟨S.slots.len,fun i u hu=>?_,S.slots.glob⟩,?_,S.kept,S.defers⟩
  ·match i,hu with
   | 0,hu =>
    obtain ⟨x,hx,hr⟩:=S.slots.rep 0 _ rfl
    simp at hu;subst hu
    exact ⟨x,hx,h2.rep _ _ _ _ hr⟩
   | i + 1,hu=>simp at hu
  ·have:=S.sc
   simp only [AV.sc.scAll,Bool.and_true] at this ⊢
   exact h2.sc _ this
 ·obtain ⟨he,v,hv,h1⟩:=hq
  exact ⟨he,v,hv,h1⟩
theorem RunOps.freezePs {P:Program} {n:Nat} {ops:Array Oper} {l:List Nat} {Q:Exit → St → Prop} (k m:Nat) {s:St} (h:RunOps P n ops l Q (freezePs m k s)):RunOps P n ops l Q s:=
 fun X a w hX hs=>h X a w hX (hs.freezePs k m)
theorem Cl.fzP {G:Ctx} {s:St} {K:List Fr} {f:FuncId} {args:List AV} {o:Oper} {a:Array Oper} {l:List Oper} (T:TabOK G.P G.E) (k:Nat) (m n:Nat) (h:vm G k (.ops a (o :: l)) K (freezePs m n s)):Cl G f args o a l K s:=fun _ _ pre hp =>
 RunOps.freezePs n m (vm_sem T _ _ _ _ h pre hp)
attribute [go_sem] mkFn frzPV frzPV.all frzPB freezeP freezePs shutR EndR_some End2 endQ opn
end Go.Ev
namespace Go.Ev
open Go.RowKit
variable [Globs]
def ren (f:Nat → Option Nat):AV → AV
 | .ptr id o=>match f id with | some j=>.ptr j o | none=>.dead
 | .mp id=>match f id with | some j=>.mp j | none=>.dead
 | .sl id o n=>match f id with | some j=>.sl j o n | none=>.dead
 | .er id o n=>match f id with | some j=>.er j o n | none=>.dead
 | .es id o i n=>match f id with | some j=>.es j o i n | none=>.dead
 | .ifc t v=>.ifc t (ren f v)
 | .agg vs=>.agg (all f vs)
 | .tup vs=>.tup (all f vs)
 | .fn g vs=>.fn g (all f vs)
 | v=>v
where
 all (f:Nat → Option Nat):List AV → List AV
  | []=>[]
  | v :: vs=>ren f v :: all f vs
def renB (f:Nat → Option Nat):ABlk → ABlk
 | .box cs=>.box (ren.all f cs)
 | .mp es c=>.mp (mapE (ren f) es) c
 | .vec sz e xs=>.vec sz e (mapV (ren f) xs)
 | k=>k
theorem renAll_length (f:Nat → Option Nat):∀ l:List AV,(ren.all f l).length=l.length
 | []=>rfl
 | v :: l=>by simp [ren.all,renAll_length f l]
theorem renAll_get (f:Nat → Option Nat):∀ (l:List AV) (i:Nat),(ren.all f l)[i]?=(l[i]?).map (ren f)
 | [],i=>by simp [ren.all]
 | v :: l,0=>by simp [ren.all]
 | v :: l,i + 1=>by simp [ren.all,renAll_get f l i]
theorem renAll_at (f:Nat → Option Nat) (l:List AV) (i:Nat) (a:i < (ren.all f l).length) (a':i < l.length):(ren.all f l)[i]=ren f l[i]:=by
 have:=renAll_get f l i
 rw [List.getElem?_eq_getElem a,List.getElem?_eq_getElem a'] at this
 simpa using this
theorem ren_sc {f:Nat → Option Nat} {q r:Nat → Bool} (hf:∀ i j,q i=true → f i=some j → r j=true):∀ v:AV,v.sc q=true → (ren f v).sc r=true
 | .c _,_ | .rd _,_ | .und,_ | .dead,_=>rfl
 | .ifc _ v,h=>ren_sc hf v h
 | .ptr id _,h | .mp id,h | .sl id _ _,h | .er id _ _,h | .es id _ _ _,h=>by
  simp only [ren]
  split
  ·rename_i hj;exact hf _ _ h hj
  ·rfl
 | .agg vs,h | .tup vs,h | .fn _ vs,h=>all vs h
where
 all:∀ vs:List AV,AV.sc.scAll q vs=true → AV.sc.scAll r (ren.all f vs)=true
  | [],_=>rfl
  | v :: vs,h=>by
   simp only [AV.sc.scAll,Bool.and_eq_true] at h
   simp only [ren.all,AV.sc.scAll,Bool.and_eq_true]
   exact ⟨ren_sc hf v h.1,all vs h.2⟩
theorem ren_rep {w:World} {N:Nat → Prop} {ρ ρ':Nat → Pl} {f:Nat → Option Nat} (hf:∀ i j,f i=some j → ρ' j = ρ i) {v:AV} {x:Value} (h:RepA w N ρ v x):RepA w N ρ' (ren f v) x:=by
 induction h with
 | c h=>exact .c h
 | agg us vs hl h ih =>
  refine .agg _ vs (by rw [renAll_length];exact hl) fun i a b=>?_
  have a':i < us.length:=by rw [renAll_length] at a;exact a
  rw [renAll_at f us i a a'];exact ih i a' b
 | tup us vs hl h ih =>
  refine .tup _ vs (by rw [renAll_length];exact hl) fun i a b=>?_
  have a':i < us.length:=by rw [renAll_length] at a;exact a
  rw [renAll_at f us i a a'];exact ih i a' b
 | fn g us vs hl h ih =>
  refine .fn g _ vs (by rw [renAll_length];exact hl) fun i a b=>?_
  have a':i < us.length:=by rw [renAll_length] at a;exact a
  rw [renAll_at f us i a a'];exact ih i a' b
 | ptr id off =>
  simp only [ren];split
  ·rename_i j hj;rw [← hf _ _ hj];exact .ptr j off
  ·exact .dead _
 | mp id =>
  simp only [ren];split
  ·rename_i j hj;rw [← hf _ _ hj];exact .mp j
  ·exact .dead _
 | sn id hp =>
  simp only [ren];split
  ·rename_i j hj;exact .sn j (by rw [hf _ _ hj];exact hp)
  ·exact .dead _
 | sl id off len cap o hp ho h1 h2 hm =>
  simp only [ren];split
  ·rename_i j hj;rw [← hf _ _ hj] at hp ho h2 ⊢;exact .sl j off len cap o hp ho h1 h2 hm
  ·exact .dead _
 | er id j i =>
  simp only [ren];split
  ·rename_i k hk;rw [← hf _ _ hk];exact .er k j i
  ·exact .dead _
 | es id j i n cap hph h1 hm =>
  simp only [ren];split
  ·rename_i k hk;rw [← hf _ _ hk] at hph ⊢;exact .es k j i n cap hph h1 hm
  ·exact .dead _
 | ifc t v x h ih=>exact .ifc t _ x ih
 | rd cs b o hN h=>exact .rd cs b o hN h
 | und=>exact .und
 | dead y=>exact .dead y
def idxIn:List Nat → Nat → Option Nat
 | [],_=>none
 | j :: js,i=>if i=j then some 0 else (idxIn js i).map (· + 1)
theorem idxIn_get:∀ {js:List Nat} {i k:Nat},idxIn js i=some k → js[k]?=some i
 | [],_,_,h=>by cases h
 | j :: js,i,k,h=>by
  unfold idxIn at h
  split at h
  ·rename_i e;cases h;rw [e];rfl
  ·obtain ⟨m,hm,rfl⟩:=Option.map_eq_some_iff.1 h
   simpa using idxIn_get hm
def posOf (n:Nat) (js:List Nat) (i:Nat):Option Nat:=if i < n then some i else (idxIn js i).map (n + ·)
def oldOf (n:Nat) (js:List Nat) (i:Nat):Nat:=if i < n then i else (js[i - n]?).getD 0
def blkAt (h:List ABlk) (i:Nat):ABlk:=(h[i]?).getD .gone
def packH (n:Nat) (js:List Nat) (h:List ABlk):List ABlk:=(h.take n).map (renB (posOf n js)) ++ js.map fun j=>renB (posOf n js) (blkAt h j)
def pack (k n:Nat) (js:List Nat) (s:St):St:=⟨ren.all (posOf n js) (s.t.take k) ++ List.replicate (s.t.length - k) .dead,packH n js s.h⟩
theorem posOf_old {n:Nat} {js:List Nat} {i j:Nat} (h:posOf n js i=some j):oldOf n js j=i ∧ j < n + js.length ∧ (¬ i < n → n ≤ j ∧ js[j - n]?=some i):=by
 unfold posOf at h
 split at h
 ·rename_i hi;cases h;exact ⟨by simp [oldOf,hi],by omega,fun h=>absurd hi h⟩
 ·rename_i hi
  obtain ⟨k,hk,rfl⟩:=Option.map_eq_some_iff.1 h
  have:=idxIn_get hk
  have hl:=(List.getElem?_eq_some_iff.1 this).1
  refine ⟨?_,by omega,fun _=>⟨by omega,by rw [Nat.add_sub_cancel_left];exact this⟩⟩
  unfold oldOf
  rw [if_neg (by omega),Nat.add_sub_cancel_left,this];rfl
theorem packH_get {n:Nat} {js:List Nat} {h:List ABlk} (hn:n ≤ h.length) {i:Nat} {k:ABlk} (hk:(packH n js h)[i]?=some k) :
  i < n + js.length ∧ k=renB (posOf n js) (blkAt h (oldOf n js i)) ∧ (n ≤ i → js[i - n]?=some (oldOf n js i)):=by
 unfold packH at hk
 by_cases hi:i < n
 ·rw [List.getElem?_append_left (by simp;omega),List.getElem?_map,List.getElem?_take_of_lt hi] at hk
  obtain ⟨k0,h0,rfl⟩:=Option.map_eq_some_iff.1 hk
  refine ⟨by omega,?_,fun h=>by omega⟩
  simp [oldOf,hi,blkAt,h0]
 ·have hl:((h.take n).map (renB (posOf n js))).length=n:=by simp;omega
  rw [List.getElem?_append_right (by omega),hl,List.getElem?_map] at hk
  obtain ⟨j,hj,rfl⟩:=Option.map_eq_some_iff.1 hk
  have:=(List.getElem?_eq_some_iff.1 hj).1
  have ho:oldOf n js i=j:=by unfold oldOf;rw [if_neg hi,hj];rfl
  exact ⟨by omega,by rw [ho],fun _=>by rw [ho];exact hj⟩
theorem packH_some {n:Nat} {js:List Nat} {h:List ABlk} (hn:n ≤ h.length) {i:Nat} (hi:i < n + js.length):(packH n js h)[i]?=some (renB (posOf n js) (blkAt h (oldOf n js i))):=by
 have hl:(packH n js h).length=n + js.length:=by simp [packH];omega
 have:=packH_get hn (List.getElem?_eq_getElem (show i < (packH n js h).length by omega))
 rw [List.getElem?_eq_getElem (show i < (packH n js h).length by omega),this.2.1]
theorem renB_born (f:Nat → Option Nat) {k:ABlk} (h:k ≠ .unborn):renB f k ≠ .unborn:=by cases k <;> simp_all [renB]
theorem born_pack {n:Nat} {js:List Nat} {h:List ABlk} (hn:n ≤ h.length) {i j:Nat} (hi:born h i=true) (hp:posOf n js i=some j):born (packH n js h) j=true:=by
 obtain ⟨h1,h2,_⟩:=posOf_old hp
 unfold born
 rw [packH_some hn h2,h1]
 have:blkAt h i ≠ .unborn:=by
  unfold born at hi
  unfold blkAt
  cases hb:h[i]? with
  | none=>rw [hb] at hi;cases hi
  | some k=>rw [hb] at hi;rintro rfl;cases hi
 have:=renB_born (posOf n js) this
 split
 ·rename_i he;exact absurd (Option.some.inj he) this
 ·rfl
 ·rename_i he;cases he
def packOK (n:Nat) (js:List Nat) (l:Nat):Bool:=decide js.Nodup && js.all fun j=>decide (n ≤ j) && decide (j < l)
theorem Sim.pack {X:Ent} {s:St} {a:Act} {w:World} (k n:Nat) (js:List Nat) (hX:X.h.length ≤ n) (hn:n ≤ s.h.length) (hjs:packOK n js s.h.length=true) (hs:Sim X s a w):Sim X (Ev.pack k n js s) a w:=by
 obtain ⟨N,ρ,S⟩:=hs
 have H:=S.heap
 simp only [packOK,Bool.and_eq_true,decide_eq_true_eq,List.all_eq_true] at hjs
 obtain ⟨hnd,hall⟩:=hjs
 let ρ':Nat → Pl:=fun i=>ρ (oldOf n js i)
 have hf:∀ i j,posOf n js i=some j → ρ' j = ρ i:=fun i j h=>by show ρ (oldOf n js j) = ρ i;rw [(posOf_old h).1]
 have hborn:∀ i j,born s.h i=true → posOf n js i=some j → born (packH n js s.h) j=true:=fun i j=>born_pack hn
 have hold:∀ i,i < n + js.length → s.h[oldOf n js i]?=some (blkAt s.h (oldOf n js i)):=fun i hi=>by
  have:oldOf n js i < s.h.length:=by
   unfold oldOf
   split
   ·omega
   ·rw [List.getElem?_eq_getElem (by omega)]
    exact (hall _ (List.getElem_mem _)).2
  unfold blkAt
  rw [List.getElem?_eq_getElem this];rfl
 have hown:∀ i,owns (packH n js s.h) ρ' i → i < n + js.length ∧ owns s.h ρ (oldOf n js i):=fun i ⟨⟨k',hk,h1,h2⟩,hp⟩=>by
  obtain ⟨g1,g2,_⟩:=packH_get hn hk
  refine ⟨g1,⟨_,hold i g1,fun e=>h1 (by rw [g2,e];rfl),fun e=>h2 (by rw [g2,e];rfl)⟩,hp⟩
 have hinj:∀ i j,i < n + js.length → j < n + js.length → oldOf n js i=oldOf n js j → i=j:=fun i j hi hj he=>by
  unfold oldOf at he
  split at he
  ·split at he
   ·exact he
   ·rw [List.getElem?_eq_getElem (by omega)] at he
    have:=(hall _ (List.getElem_mem (show j - n < js.length by omega))).1
    simp at he;omega
  ·split at he
   ·rw [List.getElem?_eq_getElem (by omega)] at he
    have:=(hall _ (List.getElem_mem (show i - n < js.length by omega))).1
    simp at he;omega
   ·rw [List.getElem?_eq_getElem (by omega),List.getElem?_eq_getElem (by omega)] at he
    have hp:=List.pairwise_iff_getElem.1 hnd
    simp only [Option.getD_some] at he
    rcases Nat.lt_trichotomy (i - n) (j - n) with h | h | h
    ·exact absurd he (hp _ _ (by omega) (by omega) h)
    ·omega
    ·exact absurd he.symm (hp _ _ (by omega) (by omega) h)
 refine ⟨N,ρ',⟨H.lt,fun i j hi hj he=>?_,fun i hi=>H.apart _ (hown i hi).2,fun i k' hk=>?_,fun i k' hk=>?_,H.glob⟩,⟨?_,fun i v hv=>?_,H.glob⟩,?_,?_,S.defers⟩
 ·exact hinj i j (hown i hi).1 (hown j hj).1 (H.inj _ _ (hown i hi).2 (hown j hj).2 he)
 ·obtain ⟨g1,g2,_⟩:=packH_get hn hk
  have:=H.own _ _ (hold i g1)
  subst g2
  generalize blkAt s.h (oldOf n js i)=k0 at this
  cases k0 with
  | box cs =>
   obtain ⟨h1,h2,vs,t,fr,hh,hfr,hl,hc⟩:=this
   refine ⟨h1,h2,vs,t,fr,hh,hfr,by simp [renAll_length,hl],fun j hj=>?_⟩
   have hj':j < cs.length:=by rw [renAll_length] at hj;exact hj
   obtain ⟨x,hx,hr⟩:=hc j hj'
   exact ⟨x,hx,by rw [renAll_at _ cs j hj hj'];exact ren_rep hf hr⟩
  | mp es c=>exact this.mapE rfl (fun b hb=>⟨hb,rfl⟩) fun v _ x hx=>ren_rep hf hx
  | vec sz e xs=>exact this.mapV rfl fun v _ x hx=>ren_rep hf hx
  | rows=>exact this
  | gone=>exact this
  | unborn=>exact this
 ·obtain ⟨g1,g2,_⟩:=packH_get hn hk
  have:=H.scope _ _ (hold i g1)
  subst g2
  generalize blkAt s.h (oldOf n js i)=k0 at this
  cases k0 with
  | box cs=>exact ren_sc.all hborn cs this
  | mp es c=>exact mapE_avs fun y hy=>ren_sc hborn y (scAll_iff.1 this y hy)
  | vec sz e xs=>exact mapV_avs fun y hy=>ren_sc hborn y (scAll_iff.1 this y hy)
  | _=>rfl
 ·have:=S.slots.len
  simp only [Ev.pack,List.length_append,renAll_length,List.length_take,List.length_replicate,← this];omega
 ·simp only [Ev.pack] at hv
  by_cases hlt:i < (ren.all (posOf n js) (s.t.take k)).length
  ·rw [List.getElem?_append_left hlt,renAll_get] at hv
   obtain ⟨v0,h0,rfl⟩:=Option.map_eq_some_iff.1 hv
   rw [List.getElem?_take] at h0
   split at h0
   ·obtain ⟨x,hx,hr⟩:=S.slots.rep i v0 h0
    exact ⟨x,hx,ren_rep hf hr⟩
   ·cases h0
  ·rw [List.getElem?_append_right (by omega)] at hv
   obtain ⟨h2,h3⟩:=List.getElem?_eq_some_iff.1 hv
   simp only [List.getElem_replicate] at h3
   subst h3
   simp only [List.length_replicate,renAll_length,List.length_take] at h2 hlt
   have hsz:i < a.tmps.size:=by rw [← S.slots.len];omega
   exact ⟨a.tmps[i],Array.getElem?_eq_getElem hsz,.dead _⟩
 ·refine scAll_iff.2 fun x hx=>?_
  simp only [Ev.pack] at hx
  rcases List.mem_append.1 hx with h1 | h1
  ·obtain ⟨i,hi⟩:=List.mem_iff_getElem?.1 h1
   rw [renAll_get] at hi
   obtain ⟨y,hy,rfl⟩:=Option.map_eq_some_iff.1 hi
   exact ren_sc hborn y (scAll_iff.1 S.sc y (List.mem_of_mem_take (List.mem_of_getElem? hy)))
  ·rw [(List.mem_replicate.1 h1).2];rfl
 ·have K:=S.kept
  refine ⟨K.os,K.tape,K.output,K.size,fun i hi=>?_,K.stay,K.from_,K.rest,fun i hi=>K.new _ (hown i hi).2⟩
  have hlt:=born_lt hi
  have hp:posOf n js i=some i:=by unfold posOf;rw [if_pos (by omega)]
  refine ⟨born_pack hn (K.rho i hi).1 hp,?_⟩
  show ρ (oldOf n js i)=_
  rw [(posOf_old hp).1];exact (K.rho i hi).2
def FitP (n:Nat) (js:List Nat) (s u:St):Prop:=packOK n js s.h.length=true ∧ n ≤ s.h.length ∧ Fit (ren.all (posOf n js) s.t) u.t ∧ packH n js s.h=u.h ∧ AV.sc.scAll (born u.h) u.t=true
theorem Sim.fitP {X:Ent} {s u:St} {a:Act} {w:World} (hs:Sim X s a w) (n:Nat) (js:List Nat) (hn:X.h.length ≤ n) (hf:FitP n js s u):Sim X u a w:=by
 obtain ⟨h1,h2,h3,h4,h5⟩:=hf
 obtain ⟨N,ρ,S⟩:=hs.pack s.t.length n js hn h2 h1
 have e:(Ev.pack s.t.length n js s)=⟨ren.all (posOf n js) s.t,u.h⟩:=by
  simp only [Ev.pack,List.take_length,Nat.sub_self,List.replicate_zero,List.append_nil,h4]
 rw [e] at S
 refine ⟨N,ρ,S.heap,⟨by rw [← h3.len];exact S.slots.len,fun i v hv=>?_,S.slots.glob⟩,h5,S.kept,S.defers⟩
 obtain ⟨v0,hv0,hl⟩:=h3.get i v hv
 obtain ⟨x,hx,hr⟩:=S.slots.rep i v0 hv0
 refine ⟨x,hx,?_⟩
 rcases hl with rfl | hl
 ·exact .dead _
 ·exact hl.rep _ _ _ _ hr
theorem Lp.fitP {G:Ctx} {K:List Fr} {s:St} {c:Code} (T:TabOK G.P G.E) (k:Nat) (n:Nat) (hn:G.n ≤ n) {α:Type} (μ:α → Nat) (I:α → Prop) (S:α → St) (js0:List Nat) (a0:α) (h0:I a0) (hs:FitP n js0 s (S a0))
  (round:∀ a,I a → vm G k (.code c) (.lp (fun s'=>∃ a' js,μ a' < μ a ∧ I a' ∧ FitP n js s' (S a')) :: K) (S a)):Lp G c K s:=by
 refine Run.from (fun X a w hX hx=>hx.fitP n js0 (Nat.le_trans hX hn) hs) ?_
 refine Run.loop (fun m s1=>∃ a,m = μ a ∧ I a ∧ s1=S a) (μ a0) ⟨a0,rfl,h0,rfl⟩ ?_
 rintro m s1 ⟨a,rfl,ha,rfl⟩
 refine Run.turn (vm_sem T _ _ _ _ (round a ha)) fun e s2 X act w hX hq2 hs2=>?_
 cases e with
 | normal =>
  obtain ⟨a',js,h1,h2,h3⟩:=hq2
  exact ⟨_,hs2.fitP n js (Nat.le_trans hX hn) h3,_,h1,a',rfl,h2,rfl⟩
 | _=>exact ⟨s2,hs2,hq2⟩
attribute [go_sem] FitP ren ren.all renB posOf idxIn packH blkAt
end Go.Ev
namespace Go.Ev
open Go.RowKit
variable [Globs]
theorem BlkOK.ren {w:World} {N:Nat → Prop} {ρ ρ':Nat → Pl} {f:Nat → Option Nat} (hf:∀ i j,f i=some j → ρ' j = ρ i) {p:Pl} {k:ABlk} (h:BlkOK w N ρ p k):BlkOK w N ρ' p (renB f k):=by
 cases k with
 | box cs =>
  obtain ⟨h1,h2,vs,t,fr,hh,hfr,hl,hc⟩:=h
  refine ⟨h1,h2,vs,t,fr,hh,hfr,by simp [renAll_length,hl],fun j hj=>?_⟩
  have hj':j < cs.length:=by rw [renAll_length] at hj;exact hj
  obtain ⟨x,hx,hr⟩:=hc j hj'
  exact ⟨x,hx,by rw [renAll_at _ cs j hj hj'];exact ren_rep hf hr⟩
 | mp es c=>exact h.mapE rfl (fun b hb=>⟨hb,rfl⟩) fun v _ x hx=>ren_rep hf hx
 | vec sz e xs=>exact h.mapV rfl fun v _ x hx=>ren_rep hf hx
 | rows=>exact h
 | gone=>exact h
 | unborn=>exact h
theorem renB_sc {f:Nat → Option Nat} {q r:Nat → Bool} (hf:∀ i j,q i=true → f i=some j → r j=true) {k:ABlk} (h:AV.sc.scAll q k.avs=true):AV.sc.scAll r (renB f k).avs=true:=by
 cases k with
 | box cs=>exact ren_sc.all hf cs h
 | mp es c=>exact mapE_avs fun y hy=>ren_sc hf y (scAll_iff.1 h y hy)
 | vec sz e xs=>exact mapV_avs fun y hy=>ren_sc hf y (scAll_iff.1 h y hy)
 | _=>rfl
theorem idxIn_at:∀ {js:List Nat} {k i:Nat},js.Nodup → js[k]?=some i → idxIn js i=some k
 | [],_,_,_,h=>by cases h
 | j :: js,0,i,_,h=>by simp at h;subst h;simp [idxIn]
 | j :: js,k + 1,i,hn,h=>by
  simp only [List.getElem?_cons_succ] at h
  have hm:i ∈ js:=List.mem_of_getElem? h
  have hne:i ≠ j:=fun e=>(List.nodup_cons.1 hn).1 (e ▸ hm)
  unfold idxIn
  rw [if_neg hne,idxIn_at (List.nodup_cons.1 hn).2 h];rfl
theorem idxIn_none:∀ {js:List Nat} {i:Nat},idxIn js i=none → i ∉ js
 | [],_,_=>by simp
 | j :: js,i,h=>by
  unfold idxIn at h
  split at h
  ·cases h
  ·rename_i hne
   rw [Option.map_eq_none_iff] at h
   simp only [List.mem_cons,not_or]
   exact ⟨hne,idxIn_none h⟩
def putAll:List Nat → List ABlk → List ABlk → List ABlk
 | j :: js,k :: ks,H=>putAll js ks (H.set j k)
 | _,_,H=>H
theorem putAll_length:∀ (js:List Nat) (ks H:List ABlk),(putAll js ks H).length=H.length
 | [],_,_=>rfl
 | _ :: _,[],_=>rfl
 | j :: js,k :: ks,H=>by rw [putAll,putAll_length];simp
theorem putAll_get:∀ (js:List Nat) (ks H:List ABlk) (i:Nat),js.Nodup → js.length ≤ ks.length → (∀ j,j ∈ js → j < H.length) → (putAll js ks H)[i]?=match idxIn js i with | some m=>ks[m]? | none=>H[i]?
 | [],_,_,_,_,_,_=>rfl
 | _ :: _,[],_,_,_,hl,_=>by simp at hl
 | j :: js,k :: ks,H,i,hn,hl,hlt=>by
  have hn':=List.nodup_cons.1 hn
  rw [putAll,putAll_get js ks (H.set j k) i hn'.2 (by simpa using hl) (fun j' hj'=>by simpa using hlt j' (by simp [hj']))]
  have hcons:idxIn (j :: js) i=if i=j then some 0 else (idxIn js i).map (· + 1):=rfl
  rw [hcons]
  by_cases e:i=j
  ·subst e
   rw [if_pos rfl]
   have:idxIn js i=none:=by
    cases h:idxIn js i with
    | none=>rfl
    | some m=>exact absurd (List.mem_of_getElem? (idxIn_get h)) hn'.1
   rw [this]
   simp only [List.getElem?_cons_zero]
   rw [List.getElem?_set_self (hlt i (by simp))]
  ·rw [if_neg e]
   cases h:idxIn js i with
   | none=>simp only [Option.map_none];rw [List.getElem?_set_ne (Ne.symm e)]
   | some m=>simp
def backOf (L:Nat) (js:List Nat) (i:Nat):Option Nat:=if i < js.length then js[i]? else some (L + (i - js.length))
def frameH (js:List Nat) (H h':List ABlk):List ABlk:=putAll js ((h'.take js.length).map (renB (backOf H.length js))) H ++ (h'.drop js.length).map (renB (backOf H.length js))
theorem Good.frame {P:Program} {f:FuncId} {args:List AV} {H:List ABlk} (js:List Nat) {r:AV} {h':List ABlk} (hjs:packOK 0 js H.length=true) (hlen:js.length ≤ h'.length)
  (G:Good P f (ren.all (posOf 0 js) args) (packH 0 js H) r h'):Good P f args H (ren (backOf H.length js) r) (frameH js H h'):=by
 intro w N ρ vs HO hsc hl hrep
 simp only [packOK,Bool.and_eq_true,decide_eq_true_eq,List.all_eq_true] at hjs
 obtain ⟨hnd,hall⟩:=hjs
 have hpos:∀ i k,posOf 0 js i=some k → js[k]?=some i ∧ k < js.length:=fun i k h=>by
  obtain ⟨_,h2,h3⟩:=posOf_old h
  exact ⟨by simpa using (h3 (by omega)).2,by omega⟩
 have hold:∀ k,k < js.length → js[k]?=some (oldOf 0 js k) ∧ oldOf 0 js k < H.length ∧ H[oldOf 0 js k]?=some (blkAt H (oldOf 0 js k)):=fun k hk=>by
  have e:js[k]?=some (oldOf 0 js k):=by unfold oldOf;rw [if_neg (by omega),Nat.sub_zero,List.getElem?_eq_getElem hk];rfl
  have hlt:=(hall _ (List.mem_of_getElem? e)).2
  exact ⟨e,hlt,by unfold blkAt;rw [List.getElem?_eq_getElem hlt];rfl⟩
 let ρ0:Nat → Pl:=fun k=>ρ (oldOf 0 js k)
 have hf0:∀ i k,posOf 0 js i=some k → ρ0 k = ρ i:=fun i k h=>by show ρ (oldOf 0 js k) = ρ i;rw [(posOf_old h).1]
 have hb0:∀ i k,born H i=true → posOf 0 js i=some k → born (packH 0 js H) k=true:=fun i k=>born_pack (Nat.zero_le _)
 have hget0:∀ k b,(packH 0 js H)[k]?=some b → k < js.length ∧ b=renB (posOf 0 js) (blkAt H (oldOf 0 js k)):=fun k b h=>by
  obtain ⟨g1,g2,_⟩:=packH_get (Nat.zero_le _) h
  exact ⟨by omega,g2⟩
 have hown0:∀ k,owns (packH 0 js H) ρ0 k → k < js.length ∧ owns H ρ (oldOf 0 js k):=fun k ⟨⟨k',hk,h1,h2⟩,hp⟩=>by
  obtain ⟨g1,g2⟩:=hget0 k k' hk
  exact ⟨g1,⟨_,(hold k g1).2.2,fun e=>h1 (by rw [g2,e];rfl),fun e=>h2 (by rw [g2,e];rfl)⟩,hp⟩
 have hinj0:∀ i j,i < js.length → j < js.length → oldOf 0 js i=oldOf 0 js j → i=j:=fun i j hi hj he=>by
  have a:=idxIn_at hnd (hold i hi).1
  have b:=idxIn_at hnd (hold j hj).1
  rw [he,b] at a;exact (Option.some.inj a).symm
 have HO0:HeapOK N (packH 0 js H) ρ0 w:=⟨HO.lt,fun i j hi hj he=>hinj0 i j (hown0 i hi).1 (hown0 j hj).1 (HO.inj _ _ (hown0 i hi).2 (hown0 j hj).2 he),fun i hi=>HO.apart _ (hown0 i hi).2,fun k b hk=>by
   obtain ⟨g1,g2⟩:=hget0 k b hk
   subst g2
   exact (HO.own _ _ (hold k g1).2.2).ren hf0,fun k b hk=>by
   obtain ⟨g1,g2⟩:=hget0 k b hk
   subst g2
   exact renB_sc hb0 (HO.scope _ _ (hold k g1).2.2),HO.glob⟩
 refine (G w N ρ0 vs HO0 (ren_sc.all hb0 _ hsc) (by rw [renAll_length];exact hl) (fun i h1 h2=>by
  have h1':i < args.length:=by rw [renAll_length] at h1;exact h1
  rw [renAll_at _ args i h1 h1'];exact ren_rep hf0 (hrep i h1' h2))).mono ?_
 rintro v w' ⟨N',ρ',H',hr',K,hs'⟩
 have hg:∀ i,(frameH js H h')[i]?=match idxIn js i with
   | some k=>(h'[k]?).map (renB (backOf H.length js))
   | none=>if i < H.length then H[i]? else (h'[js.length + (i - H.length)]?).map (renB (backOf H.length js)):=fun i=>by
  have hlt:∀ j,j ∈ js → j < H.length:=fun j hj=>(hall j hj).2
  unfold frameH
  cases hi:idxIn js i with
  | some k =>
   have hk:=idxIn_get hi
   have hkl:=(List.getElem?_eq_some_iff.1 hk).1
   rw [List.getElem?_append_left (by rw [putAll_length];exact hlt i (List.mem_of_getElem? hk)),putAll_get js _ H i hnd (by simp;omega) hlt,hi]
   simp only [List.getElem?_map,List.getElem?_take_of_lt hkl]
  | none =>
   simp only []
   split
   ·rename_i h
    rw [List.getElem?_append_left (by rw [putAll_length];exact h),putAll_get js _ H i hnd (by simp;omega) hlt,hi]
   ·rename_i h
    rw [List.getElem?_append_right (by rw [putAll_length];omega),putAll_length,List.getElem?_map,List.getElem?_drop]
 let ρ2:Nat → Pl:=fun i=>match idxIn js i with
  | some k=>ρ' k
  | none=>if i < H.length then ρ i else ρ' (js.length + (i - H.length))
 have hf2:∀ k i,backOf H.length js k=some i → ρ2 i = ρ' k:=fun k i h=>by
  unfold backOf at h
  split at h
  ·have:=idxIn_at hnd h
   show (match idxIn js i with | some k=>ρ' k | none=>_)=_
   rw [this]
  ·cases h
   have:idxIn js (H.length + (k - js.length))=none:=by
    cases hi:idxIn js (H.length + (k - js.length)) with
    | none=>rfl
    | some m=>have:=(hall _ (List.mem_of_getElem? (idxIn_get hi))).2;omega
   show (match idxIn js (H.length + (k - js.length)) with | some k=>ρ' k | none=>_)=_
   rw [this]
   simp only []
   rw [if_neg (by omega)]
   congr 1;omega
 have hcase:∀ i b,(frameH js H h')[i]?=some b → (∃ k b0,h'[k]?=some b0 ∧ b=renB (backOf H.length js) b0 ∧ ρ2 i = ρ' k ∧ backOf H.length js k=some i) ∨ (i ∉ js ∧ H[i]?=some b ∧ ρ2 i = ρ i):=fun i b hb=>by
  rw [hg i] at hb
  cases hi:idxIn js i with
  | some k =>
   rw [hi] at hb
   obtain ⟨b0,h0,rfl⟩:=Option.map_eq_some_iff.1 hb
   have hk:=idxIn_get hi
   have hkl:=(List.getElem?_eq_some_iff.1 hk).1
   have hbk:backOf H.length js k=some i:=by unfold backOf;rw [if_pos hkl,hk]
   exact .inl ⟨k,b0,h0,rfl,hf2 k i hbk,hbk⟩
  | none =>
   rw [hi] at hb
   simp only [] at hb
   split at hb
   ·rename_i h
    refine .inr ⟨idxIn_none hi,hb,?_⟩
    show (match idxIn js i with | some k=>ρ' k | none=>_)=_
    rw [hi];simp only [];rw [if_pos h]
   ·rename_i h
    obtain ⟨b0,h0,rfl⟩:=Option.map_eq_some_iff.1 hb
    have hbk:backOf H.length js (js.length + (i - H.length))=some i:=by
     unfold backOf;rw [if_neg (by omega)];congr 1;omega
    exact .inl ⟨_,b0,h0,rfl,hf2 _ i hbk,hbk⟩
 have hback:∀ k k' i,backOf H.length js k=some i → backOf H.length js k'=some i → k=k':=fun k k' i h1 h2=>by
  unfold backOf at h1 h2
  split at h1
  ·split at h2
   ·have a:=idxIn_at hnd h1
    have b:=idxIn_at hnd h2
    rw [a] at b;exact Option.some.inj b
   ·cases h2
    have:=(hall _ (List.mem_of_getElem? h1)).2;omega
  ·split at h2
   ·cases h1
    have:=(hall _ (List.mem_of_getElem? h2)).2;omega
   ·cases h1
    have:=Option.some.inj h2;omega
 have hown2:∀ i,owns (frameH js H h') ρ2 i → (∃ k,owns h' ρ' k ∧ ρ2 i = ρ' k ∧ backOf H.length js k=some i) ∨ (i ∉ js ∧ owns H ρ i ∧ ρ2 i = ρ i):=fun i ⟨⟨b,hb,h1,h2⟩,hp⟩=>by
  rcases hcase i b hb with ⟨k,b0,g1,g2,g3,g4⟩ | ⟨g1,g2,g3⟩
  ·exact .inl ⟨k,⟨⟨b0,g1,fun e=>h1 (by rw [g2,e];rfl),fun e=>h2 (by rw [g2,e];rfl)⟩,by rw [← g3];exact hp⟩,g3,g4⟩
  ·exact .inr ⟨g1,⟨⟨b,g2,h1,h2⟩,by rw [← g3];exact hp⟩,g3⟩
 have hne:∀ i,i ∉ js → owns H ρ i → ∀ k,owns (packH 0 js H) ρ0 k → (ρ0 k).b ≠ (ρ i).b:=fun i hi ho k hk he=>by
  obtain ⟨g1,g2⟩:=hown0 k hk
  have:=HO.inj _ _ g2 ho he
  exact hi (this ▸ List.mem_of_getElem? (hold k g1).1)
 have hkeep:∀ i,i ∉ js → owns H ρ i → w'.heap[(ρ i).b]?=w.heap[(ρ i).b]?:=fun i hi ho=>K.rest _ (own_lt HO ho) (hne i hi ho)
 have hmix:∀ i,i ∉ js → owns H ρ i → ∀ k,owns h' ρ' k → (ρ' k).b ≠ (ρ i).b:=fun i hi ho k hk he=>by
  rcases K.new k hk with h1 | ⟨j,hj,h1⟩
  ·have:=own_lt HO ho;omega
  ·exact hne i hi ho j hj (h1.trans he)
 have hrho:∀ i,born H i=true → born (frameH js H h') i=true ∧ ρ2 i = ρ i:=fun i hi=>by
  have hlt:=born_lt hi
  cases hx:idxIn js i with
  | some k =>
   have hk:=idxIn_get hx
   have hkl:=(List.getElem?_eq_some_iff.1 hk).1
   have hp:posOf 0 js i=some k:=by unfold posOf;rw [if_neg (by omega),hx];simp
   obtain ⟨k1,k2⟩:=K.rho k (hb0 i k hi hp)
   have hbk:backOf H.length js k=some i:=by unfold backOf;rw [if_pos hkl,hk]
   refine ⟨?_,by rw [hf2 k i hbk,k2,hf0 i k hp]⟩
   unfold born at k1 ⊢
   rw [hg i,hx]
   simp only []
   cases hb:h'[k]? with
   | none=>rw [hb] at k1;cases k1
   | some b=>rw [hb] at k1;cases b <;> first | rfl | cases k1
  | none =>
   refine ⟨?_,?_⟩
   ·unfold born at hi ⊢
    rw [hg i,hx];simp only [];rw [if_pos hlt];exact hi
   ·show (match idxIn js i with | some k=>ρ' k | none=>_)=_
    rw [hx];simp only [];rw [if_pos hlt]
 have hb2:∀ k i,born h' k=true → backOf H.length js k=some i → born (frameH js H h') i=true:=fun k i hk hbk=>by
  have:(frameH js H h')[i]?=(h'[k]?).map (renB (backOf H.length js)):=by
   rw [hg i]
   unfold backOf at hbk
   split at hbk
   ·rw [idxIn_at hnd hbk]
   ·rename_i hge
    cases hbk
    have:idxIn js (H.length + (k - js.length))=none:=by
     cases hi:idxIn js (H.length + (k - js.length)) with
     | none=>rfl
     | some m=>have:=(hall _ (List.mem_of_getElem? (idxIn_get hi))).2;omega
    rw [this];simp only []
    rw [if_neg (by omega),show js.length + (H.length + (k - js.length) - H.length)=k by omega]
  unfold born at hk ⊢
  rw [this]
  cases hb:h'[k]? with
  | none=>rw [hb] at hk;cases hk
  | some b=>rw [hb] at hk;cases b <;> first | rfl | cases hk
 refine ⟨N',ρ2,⟨H'.lt,fun i j hi hj he=>?_,fun i hi=>?_,fun i b hb=>?_,fun i b hb=>?_,H'.glob⟩,ren_rep hf2 hr',?_,ren_sc hb2 r hs'⟩
 ·rcases hown2 i hi with ⟨k,g1,g2,g3⟩ | ⟨g1,g2,g3⟩ <;> rcases hown2 j hj with ⟨k',e1,e2,e3⟩ | ⟨e1,e2,e3⟩
  ·rw [g2,e2] at he
   have:=H'.inj k k' g1 e1 he
   subst this
   rw [g3] at e3;exact Option.some.inj e3
  ·rw [g2,e3] at he;exact absurd he (hmix j e1 e2 k g1)
  ·rw [g3,e2] at he;exact absurd he.symm (hmix i g1 g2 k' e1)
  ·rw [g3,e3] at he;exact HO.inj i j g2 e2 he
 ·rcases hown2 i hi with ⟨k,g1,g2,g3⟩ | ⟨g1,g2,g3⟩
  ·rw [g2];exact H'.apart k g1
  ·rw [g3]
   intro hN
   rcases K.from_ _ hN with h1 | h1 | ⟨j,hj,h1⟩
   ·exact HO.apart i g2 h1
   ·have:=own_lt HO g2;omega
   ·exact hne i g1 g2 j hj h1
 ·rcases hcase i b hb with ⟨k,b0,g1,g2,g3,g4⟩ | ⟨g1,g2,g3⟩
  ·subst g2;rw [g3];exact (H'.own k b0 g1).ren hf2
  ·rw [g3]
   exact (HO.own i b g2).mono (q:=born H) (HO.scope i b g2) (fun h1 h2 h3=>hkeep i g1 ⟨⟨b,g2,h1,h2⟩,h3⟩) (fun b hN=>K.stay b hN) fun j hj=>(hrho j hj).2
 ·rcases hcase i b hb with ⟨k,b0,g1,g2,g3,g4⟩ | ⟨g1,g2,g3⟩
  ·subst g2;exact renB_sc hb2 (H'.scope k b0 g1)
  ·exact AV.sc_mono.all (fun j hj=>(hrho j hj).1) _ (HO.scope i b g2)
 ·refine ⟨K.os,K.tape,K.output,K.size,hrho,K.stay,fun b hb=>?_,fun b hb hn=>K.rest b hb fun k hk=>hn _ (hown0 k hk).2,fun i hi=>?_⟩
  ·rcases K.from_ b hb with h1 | h1 | ⟨j,hj,h1⟩
   ·exact .inl h1
   ·exact .inr (.inl h1)
   ·exact .inr (.inr ⟨_,(hown0 j hj).2,h1⟩)
  ·rcases hown2 i hi with ⟨k,g1,g2,g3⟩ | ⟨g1,g2,g3⟩
   ·rw [g2]
    rcases K.new k g1 with h1 | ⟨j,hj,h1⟩
    ·exact .inl h1
    ·exact .inr ⟨_,(hown0 j hj).2,h1⟩
   ·rw [g3];exact .inr ⟨i,g2,rfl⟩
end Go.Ev
namespace Go.Ev
open Go.RowKit
variable [Globs]
theorem Cl.frame {G:Ctx} {s:St} {K:List Fr} {f:FuncId} {args args0:List AV} {o:Oper} {a:Array Oper} {l:List Oper} {r:AV} {h0 h':List ABlk} (T:TabOK G.P G.E) (k:Nat) (js:List Nat) (GG:Good G.P f args0 h0 r h')
  (hj:packOK 0 js s.h.length=true) (he:ren.all (posOf 0 js) args=args0) (hh:packH 0 js s.h=h0) (hl:js.length ≤ h'.length)
  (h:vm G k (.ops a l) K ⟨setD s.t o.dst (ren (backOf s.h.length js) r),frameH js s.h h'⟩):Cl G f args o a l K s:=by
 subst he hh
 exact Cl.of T k (Good.frame js hj hl GG) h
attribute [go_sem] backOf frameH putAll
end Go.Ev
