import Derived.Test.YtifdakibkadfiaaGreatDoorMe1
import Derived.ProofKit
import Derived.OpenShut
import Derived.ChangeArms
import Derived.SizedLaws
set_option linter.all false
set_option maxRecDepth 100000
set_option maxHeartbeats 8000000
section
open Go Go.Proofs Go.RowKit Go.ChangeShapes Go.WideShapes
namespace Go.Ev
inductive Wt (P:Program):TypeId → List CV → Prop
 | int {t:TypeId} {k:IntKind} {n:Int} (h:P.underlying t=some (.int k)) (hw:(Lit.int k n).wf=true):Wt P t [.int k n]
 | bool {t:TypeId} {b:Bool} (h:P.underlying t=some .bool):Wt P t [.bool b]
 | str {t:TypeId} {s:ByteArray} (h:P.underlying t=some .string) (hs:s.size ≤ reachBytes):Wt P t [.str s]
 | sl {t e:TypeId} {xs:List (List CV)} (h:P.underlying t=some (.slice e)) (hb:xs.length * P.bytesOf e ≤ reachBytes) (hx:∀ x,x ∈ xs → Wt P e x):Wt P t [.lst (P.cellsOf e) false xs]
 | agg {t:TypeId} {fs:Array Field} {us:List CV} (h:P.underlying t=some (.struct fs)) (hl:us.length=P.cellsOf t) (hx:∀ f,f ∈ fs.toList → Wt P f.type ((us.drop f.offset).take (P.cellsOf f.type))):Wt P t us
theorem Jk {H:Type} {P:Program} {e:TypeId}:∀ {l:List (DataW H)} {d:DataW H},d ∈ l → ∀ n,n ∈ d.weights P e → n ∈ DataW.weightsAll P e l
 | a :: l,d,hd,n,hn=>by
  rw [DataW.weightsAll]
  rcases List.mem_cons.1 hd with rfl | hd
  ·exact List.mem_append_left _ hn
  ·exact List.mem_append_right _ (Jk hd n hn)
def XA (P:Program) (S:List TypeId) (n:Nat):Nat → List Field → Bool
 | off,[]=>off == n
 | off,f :: fs=>f.offset == off && S.contains f.type && XA P S n (off + P.cellsOf f.type) fs
def zbC (P:Program) (S:List TypeId):Bool:=S.all fun t=>match P.underlying t with
 | some (.int _) | some .bool | some .string=>true
 | some (.slice e)=>S.contains e
 | some (.struct fs)=>XA P S (P.cellsOf t) 0 fs.toList
 | _=>false
def x9 (w:World) (us:List CV) (cs:List Value):Prop:=us.length=cs.length ∧ ∀ (i:Nat) (a:i < us.length) (b:i < cs.length),kX w (fun b=>b < w.heap.size) us[i] cs[i]
theorem x9.one {w:World} {u:CV} {c:Value} (h:kX w (fun b=>b < w.heap.size) u c):x9 w [u] [c]:=⟨rfl,fun i a b=>by
 match i,a,b with
 | 0,_,_=>exact h⟩
theorem x9.append {w:World} {us vs:List CV} {cs ds:List Value} (h1:x9 w us cs) (h2:x9 w vs ds):x9 w (us ++ vs) (cs ++ ds):=⟨by simp [h1.1,h2.1],fun i a b=>by
 by_cases h:i < us.length
 ·rw [List.getElem_append_left h,List.getElem_append_left (by rw [← h1.1];exact h)]
  exact h1.2 i h _
 ·rw [List.getElem_append_right (by omega),List.getElem_append_right (by rw [← h1.1];omega)]
  have e:i - cs.length=i - us.length:=by rw [h1.1]
  have:=h2.2 (i - us.length) (by simp at a;omega) (by have:=h2.1;simp at a;omega)
  simp only [e]
  exact this⟩
theorem V1 {P:Program} {S:List TypeId} {w:World} {n:Nat} {cs:List Value} (hl:cs.length=n):∀ (fs:List Field) (off:Nat),XA P S n off fs=true → off ≤ n →
  (∀ f,f ∈ fs → S.contains f.type=true → ∃ us,Wt P f.type us ∧ x9 w us ((cs.drop f.offset).take (P.cellsOf f.type)) ∧ f.offset + P.cellsOf f.type ≤ n) →
  ∃ us,x9 w us (cs.drop off) ∧ ∀ f,f ∈ fs → off ≤ f.offset ∧ Wt P f.type ((us.drop (f.offset - off)).take (P.cellsOf f.type))
 | [],off,h,_,_=>by
  simp only [XA,beq_iff_eq] at h
  subst h
  refine ⟨[],⟨by simp [hl],fun i a=>absurd a (by simp)⟩,fun f hf=>by cases hf⟩
 | f :: fs,off,h,ho,H=>by
  simp only [XA,Bool.and_eq_true,beq_iff_eq] at h
  obtain ⟨⟨rfl,hS⟩,h3⟩:=h
  obtain ⟨us,w1,r1,hle⟩:=H f (by simp) hS
  obtain ⟨vs,r2,hv⟩:=V1 hl fs (f.offset + P.cellsOf f.type) h3 hle fun g hg=>H g (by simp [hg])
  have hul:us.length=P.cellsOf f.type:=by rw [r1.1,List.length_take,List.length_drop];omega
  refine ⟨us ++ vs,?_,fun g hg=>?_⟩
  ·have:=r1.append r2
   rwa [← List.drop_drop,List.take_append_drop] at this
  ·rcases List.mem_cons.1 hg with rfl | hg
   ·refine ⟨Nat.le_refl _,?_⟩
    rw [Nat.sub_self,List.drop_zero,← hul,List.take_left]
    exact w1
   ·obtain ⟨h4,h5⟩:=hv g hg
    refine ⟨by omega,?_⟩
    have e:g.offset - f.offset=us.length + (g.offset - (f.offset + P.cellsOf f.type)):=by omega
    rw [e,← List.drop_drop,List.drop_left]
    exact h5
theorem zjc {H:Type} {enc:TypeId × Value → H} {P:Program} {w:World} {base:Nat} {sp:Nat → Bool} {held:Bool} {S:List TypeId} (hS:zbC P S=true) (hz:(S.all fun t=>match P.underlying t with | some (.int _) | some .bool | some .string | some (.slice _)=>P.cellsOf t == 1 | _=>true)=true) {fuel:Nat} {t:TypeId} {cs:List Value} {x:DataW H × List MemPlace} (ht:S.contains t=true) (h:DataW.trod enc P w base sp held fuel t cs=some x):cs.length=P.cellsOf t:=by
 have hm:t ∈ S:=by simpa using ht
 have h1:=List.all_eq_true.1 hS t hm
 have h2:=List.all_eq_true.1 hz t hm
 cases hu:P.underlying t with
 | none=>rw [hu] at h1;cases h1
 | some d =>
  rw [hu] at h1 h2
  cases d <;> simp only [beq_iff_eq] at h1 h2 <;> try (cases h1;done)
  ·obtain ⟨b,rfl,_⟩:=DataW.trod_bool hu h;exact h2.symm
  ·obtain ⟨b,rfl,_⟩:=DataW.trod_int hu h;exact h2.symm
  ·obtain ⟨b,rfl,_⟩:=DataW.trod_string hu h;exact h2.symm
  ·rcases DataW.trod_slice hu h with ⟨rfl,_⟩ | ⟨a,l,c,_,_,_,_,rfl,_⟩ <;> exact h2.symm
  ·obtain ⟨xs,n,_,_,hl,_⟩:=DataW.trod_struct hu h;exact hl
theorem zji {H:Type} {enc:TypeId × Value → H} {P:Program} {w:World} {base:Nat} {sp:Nat → Bool} {held:Bool} {S:List TypeId} (hS:zbC P S=true) (hz:(S.all fun t=>match P.underlying t with | some (.int _) | some .bool | some .string | some (.slice _)=>P.cellsOf t == 1 | _=>true)=true)
  (hp:(S.all fun t=>decide (0 < P.cellsOf t))=true):∀ (fuel:Nat) (t:TypeId) (cs:List Value) (x:DataW H × List MemPlace),S.contains t=true → (∀ n,n ∈ x.1.weights P t → n ≤ reachBytes) → DataW.trod enc P w base sp held fuel t cs=some x → ∃ us,Wt P t us ∧ x9 w us cs:=by
 intro fuel
 induction fuel with
 | zero=>intro t cs x _ _ h;simp [DataW.trod] at h
 | succ n ih =>
  intro t cs x ht hwt h
  have hm:t ∈ S:=by simpa using ht
  have h1:=List.all_eq_true.1 hS t hm
  cases hu:P.underlying t with
  | none=>rw [hu] at h1;cases h1
  | some d =>
   rw [hu] at h1
   cases d <;> simp only [] at h1 <;> try (cases h1;done)
   ·obtain ⟨b,rfl,_⟩:=DataW.trod_bool hu h
    exact ⟨[.bool b],.bool hu,x9.one (.bool b)⟩
   ·rename_i k
    obtain ⟨m,rfl,_,hw⟩:=DataW.trod_int hu h
    exact ⟨[.int k m],.int hu hw,x9.one (.int k m)⟩
   ·obtain ⟨s,rfl,rfl,hs⟩:=DataW.trod_string hu h
    exact ⟨[.str s],.str hu (hwt _ (by simp [DataW.weights])),x9.one (.str s)⟩
   ·rename_i e
    have he:e ∈ S:=by simpa using h1
    have hpe:0 < P.cellsOf e:=by simpa using List.all_eq_true.1 hp e he
    rcases DataW.trod_slice hu h with ⟨rfl,_⟩ | ⟨a,len,cap,elems,rest,m,hf,rfl,rfl,hb,hlc,hcap,hlen,hel,_⟩
    ·refine ⟨[.lst (P.cellsOf e) false []],.sl hu (by simp) (fun x hx=>by cases hx),x9.one ?_⟩
     exact kX.lst _ false [] none 0 (fun _ _=>undef) (fun h=>by cases h) (by simp) (by omega) (by simp) (fun j i hj=>absurd hj (by simp)) (fun j i hj=>absurd hj (by simp))
    ·have hmn:m=n:=by omega
     subst hmn
     have each:∀ i,i < len → ∃ us:List CV,Wt P e us ∧ us.length=P.cellsOf e ∧ ∀ (k:Nat) (hk:k < us.length),∃ y,w.cell? (a.add (i * P.cellsOf e + k))=some y ∧ kX w (fun b=>b < w.heap.size) us[k] y ∧ a.block < w.heap.size:=fun i hi=>by
      have hq:=hel i hi
      rw [List.getElem?_eq_getElem (by omega)] at hq
      obtain ⟨ds,hds,hd⟩:=Option.bind_eq_some_iff.1 hq
      obtain ⟨us,hw,hr⟩:=ih e ds _ h1 (fun n hn=>hwt n (by simp only [DataW.weights,hu];exact List.mem_cons_of_mem _ (List.mem_append_left _ (Jk (List.mem_map_of_mem (List.getElem_mem (by omega))) n hn)))) hd
      obtain ⟨hb1,hl1,hc1⟩:=World.cells?_some hds
      refine ⟨us,hw,by rw [hr.1,hl1],fun k hk=>?_⟩
      have hkd:k < ds.length:=by rw [← hr.1];exact hk
      have hcell:=hc1 k (by omega)
      rw [List.getElem?_eq_getElem hkd] at hcell
      have hadd:(a.add (i * P.cellsOf e)).add k=a.add (i * P.cellsOf e + k):=by
       unfold Addr.add
       by_cases h0:i * P.cellsOf e=0
       ·simp [h0]
       ·by_cases h2:k=0
        ·simp [h2]
        ·rw [if_neg h0,if_neg h2,if_neg (by omega)];simp [Nat.add_assoc]
      rw [hadd] at hcell
      refine ⟨ds[k],hcell,hr.2 k hk hkd,?_⟩
      have:=World.block_lt_of_cell? w _ hcell
      have hblk:(a.add (i * P.cellsOf e + k)).block=a.block:=by unfold Addr.add;split <;> rfl
      rw [hblk] at this;exact this
     have ⟨F,hF⟩:∃ F:Nat → List CV,∀ i,i < len → Wt P e (F i) ∧ (F i).length=P.cellsOf e ∧ ∀ (k:Nat) (hk:k < (F i).length),∃ y,w.cell? (a.add (i * P.cellsOf e + k))=some y ∧ kX w (fun b=>b < w.heap.size) (F i)[k] y ∧ a.block < w.heap.size:=
      ⟨fun i=>if hi:i < len then Classical.choose (each i hi) else [],fun i hi=>by simp only [dif_pos hi];exact Classical.choose_spec (each i hi)⟩
     have hlenF:((List.range len).map F).length=len:=by simp
     refine ⟨[.lst (P.cellsOf e) false ((List.range len).map F)],.sl hu (by
      have:=hwt ((elems.length + rest.length) * P.bytesOf e) (by simp [DataW.weights,hu])
      rw [hlenF]
      exact Nat.le_trans (Nat.mul_le_mul_right _ (by omega)) this) (fun x hx=>?_),x9.one ?_⟩
     ·obtain ⟨i,hi,rfl⟩:=List.mem_map.1 hx
      exact (hF i (List.mem_range.1 hi)).1
     ·have key:=kX.lst (w:=w) (N:=fun b=>b < w.heap.size) (P.cellsOf e) false ((List.range len).map F) (some a) cap (fun j i=>(w.cell? (a.add (j * P.cellsOf e + i))).getD undef) (fun h=>by cases h) (by omega) (by unfold maxLen at hcap;omega)
       (fun x hx=>by
        obtain ⟨i,hi,rfl⟩:=List.mem_map.1 hx
        exact (hF i (List.mem_range.1 hi)).2.1)
       (fun j i hj hi=>by
        rw [hlenF] at hj
        obtain ⟨_,h2,h3⟩:=hF j hj
        obtain ⟨y,hy,_,hlt⟩:=h3 i (by omega)
        have hsp:a.spot=none:=by
         obtain ⟨_,g2,g3⟩:=hF 0 (by omega)
         obtain ⟨z,hz,_⟩:=g3 0 (by omega)
         simp only [Nat.zero_mul,Nat.add_zero,Addr.add,if_true] at hz
         unfold World.cell? at hz
         split at hz
         ·split at hz
          ·cases hz
          ·rename_i hs;simpa using hs
         ·cases hz
        refine ⟨a.block,a.off,by cases a;simp only at hsp;subst hsp;rfl,hlt,?_⟩
        rw [hy]
        have:a.add (j * P.cellsOf e + i)=⟨a.block,a.off + (j * P.cellsOf e + i),none⟩:=by
         unfold Addr.add
         split
         ·rename_i h0;cases a;simp only at hsp;subst hsp;simp [h0]
         ·rfl
        rw [← this,hy];rfl)
       (fun j i hj hi=>by
        rw [hlenF] at hj
        have e1:((List.range len).map F)[j]'(by rw [hlenF];exact hj)=F j:=by simp
        have hi':i < (F j).length:=by rw [← e1];exact hi
        obtain ⟨y,hy,hr,_⟩:=(hF j hj).2.2 i hi'
        rw [hy]
        simpa [e1] using hr)
      rw [hlenF] at key
      exact key
   ·rename_i fs
    obtain ⟨xs,m,hf,rfl,hl,hxl,hfld⟩:=DataW.trod_struct hu h
    have hmn:m=n:=by omega
    subst hmn
    obtain ⟨us,r,hw⟩:=V1 (P:=P) (S:=S) (w:=w) hl fs.toList 0 h1 (Nat.zero_le _) fun f hfm hSf=>by
     obtain ⟨i,hi,hfi⟩:=List.getElem_of_mem hfm
     have hi':i < fs.size:=by simpa using hi
     have hq:=hfld i f (by rw [← Array.getElem?_toList,List.getElem?_eq_getElem hi,hfi])
     rw [List.getElem?_eq_getElem (by omega)] at hq
     obtain ⟨us,hw,hr⟩:=ih _ _ _ hSf (fun n hn=>hwt n (by
      simp only [DataW.weights,hu]
      refine DataW.weights_mem_each (j:=i) (t:=f.type) (d:=xs[i].1) ?_ ?_ n hn
      ·simp [← hfi,hi']
      ·simp [show i < xs.length by omega])) hq
     have hlen:=zjc hS hz hSf hq
     have hpf:0 < P.cellsOf f.type:=by simpa using List.all_eq_true.1 hp f.type (by simpa using hSf)
     refine ⟨us,hw,hr,?_⟩
     rw [List.length_take,List.length_drop] at hlen
     omega
    rw [List.drop_zero] at r
    refine ⟨us,.agg hu (by rw [r.1,hl]) fun f hfm=>?_,r⟩
    have:=(hw f hfm).2
    rwa [Nat.sub_zero] at this
end Go.Ev
end
