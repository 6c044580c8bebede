/-  The evaluator, second part: calls, code, regions that draw their order. Over any program. -/
import Derived.Test.YtifdakibkadfiaaGreatDoorEvOne
import Derived.Lib.ConvBytes
import Derived.Laws.BytesArg
import Derived.MapKept
import Derived.Deep.LoopGhost
set_option linter.all false
set_option maxRecDepth 100000
set_option maxHeartbeats 8000000
namespace Go.Ev
open Go.RowKit
variable [qo]
theorem V2:∀ {ys:List (List CV)} {l:List UInt8},KI ys=some l → l.length=ys.length ∧ (∀ y,y ∈ ys → y.length=1) ∧ ∀ (j:Nat) (h1:j < ys.length) (h2:j < l.length),∃ n,ys[j]=[.int .u8 n] ∧ l[j]=UInt8.ofNat n.toNat
 | [],l,h=>by simp [KI] at h;subst h;exact ⟨rfl,by simp,fun j h1=>absurd h1 (by simp)⟩
 | y :: ys,l,h=>by
  unfold KI at h
  split at h
  ·rename_i b l' hb hl
   cases h
   obtain ⟨h1,h2,h3⟩:=V2 (ys:=ys) hl
   have hy:∃ n,y=[.int .u8 n] ∧ b=UInt8.ofNat n.toNat:=by
    unfold zj3 at hb
    split at hb
    ·cases hb;exact ⟨_,rfl,rfl⟩
    ·cases hb
   obtain ⟨n,rfl,rfl⟩:=hy
   refine ⟨by simp [h1],fun z hz=>?_,fun j a b=>?_⟩
   ·rcases List.mem_cons.1 hz with rfl | hz
    ·rfl
    ·exact h2 z hz
   ·cases j with
    | zero=>exact ⟨n,rfl,rfl⟩
    | succ j=>exact h3 j (by simpa using a) (by simpa using b)
  ·cases h
section
variable {P:Program} {E:Env} (T:zE P E) {w:World} {N:Nat → Prop} {ρ:Nat → Pl} {h:List zf} (H:zw N h ρ w)
include T H
theorem zal {src dst:TypeId} {x v:AV} {X:Value} {nw:Nat} {U:List (Nat × zf)} (hf:kA h nw) (hx:zo w N ρ x X) (hv:Xy E src dst x h nw=some (v,U)) :
  ∃ y w',(convert src dst X).run P w = .ok y w' ∧ zn N h ρ w v (app h U) y w':=by
 unfold Xy at hv
 split at hv
 ·rename_i k0 k k1 n hs hd
  cases hv;cases hx.int_eq
  exact ⟨_,w,by simp [convert,T.zt hs,T.zt hd,Conv.intToInt],zn.quiet H (.c (.int _ _)) rfl⟩
 ·rename_i s hs hd
  cases hv;cases hx.vH
  exact ⟨_,w,by simp [convert,T.zt hs,T.zt hd],zn.quiet H (.c (.str _)) rfl⟩
 ·rename_i e hs hd
  split at hv
  ·rename_i he
   split at hv
   ·rename_i ys hys
    obtain ⟨l,hl,he2⟩:=Option.map_eq_some_iff.1 hv
    cases he2
    obtain ⟨hl1,hl2,hl3⟩:=V2 hl
    have key:∃ A c news,X = .slice A ys.length c ∧ qa w N 1 ys news ∧ (A=none → ys=[]) ∧ (∀ a,A=some a → ∀ (j:Nat) (u:Value),news[j]?=some u → w.cell? (a.add j)=some u):=by
     by_cases hne:ys=[]
     ·subst hne
      unfold rowOf at hys
      split at hys
      ·cases hx.Qy;exact ⟨none,0,[],rfl,qa.nil w N 1,fun _=>rfl,fun a ha=>by cases ha⟩
      ·cases hys
       cases hx with | c hx =>
       cases hx with
       | lst _ _ _ A c=>exact ⟨A,c,[],rfl,qa.nil w N 1,fun _=>rfl,fun a ha j u hu=>by simp at hu⟩
      ·rename_i id off len
       split at hys
       ·split at hys
        ·rename_i sz' e' xs hb hle
         have:len=0:=by
          have:=congrArg List.length (Option.some.inj hys)
          simp at this;omega
         subst this
         cases hx with
         | sn _ _=>exact ⟨none,0,[],rfl,qa.nil w N 1,fun _=>rfl,fun a ha=>by cases ha⟩
         | sl _ _ _ cap o=>exact ⟨_,cap,[],rfl,qa.nil w N 1,fun _=>rfl,fun a ha j u hu=>by simp at hu⟩
        ·cases hys
       ·cases hys
      ·cases hys
     ·obtain ⟨A,c,news,he,_,_,hrow,hA,hcell⟩:=xU H (by omega) hx hys hl2 (fun id off len e2 sz' xs hxe hb=>by
       subst hxe
       have h1:=(H.own id _ hb).2.1
       unfold rowOf at hys
       simp only [hb] at hys
       split at hys
       ·cases hys
        obtain ⟨y,hy⟩:=List.exists_mem_of_ne_nil _ hne
        rw [← hl2 y hy];exact (h1 y (List.mem_of_mem_drop (List.mem_of_mem_take hy))).symm
       ·cases hys)
      exact ⟨A,c,news,he,hrow,hA,hcell⟩
    obtain ⟨A,c,news,rfl,hrow,hA,hcell⟩:=key
    let ns:List Int:=ys.map fun y=>match y with | [.int .u8 n]=>n | _=>0
    have hstr:(⟨l.toArray⟩:ByteArray)=strOfNums ns:=by
     unfold strOfNums
     congr 2
     apply List.ext_getElem
     ·simp [ns,hl1]
     ·intro j h1 h2
      obtain ⟨n,hn1,hn2⟩:=hl3 j (by omega) h1
      simp [ns,hn1,hn2]
    have hloads:∀ a,A=some a → (loadCells a ys.length).run P w = .ok (ns.map (Value.int .u8)).toArray w:=fun a ha=>by
     have hnl:news.length=ys.length:=by rw [hrow.1,Nat.mul_one]
     have hnews:news=ns.map (Value.int .u8):=by
      apply List.ext_getElem
      ·simp [ns,hnl]
      ·intro j h1 h2
       obtain ⟨n,hn1,hn2⟩:=hl3 j (by omega) (by omega)
       obtain ⟨y,hy,hr⟩:=hrow.2.2 j 0 (by omega) (by rw [hn1];simp)
       rw [Nat.mul_one,Nat.add_zero] at hy
       obtain ⟨_,hy⟩:=List.getElem?_eq_some_iff.1 hy
       rw [hy]
       simp only [hn1,List.getElem_cons_zero] at hr
       cases hr
       simp [ns,hn1]
     have:=run_loadCells_list (P:=P) w a news (fun j v hj=>hcell a ha j v hj)
     rw [hnl] at this
     rw [this,hnews]
    cases A with
    | none =>
     have h0:=hA rfl
     subst h0
     refine ⟨_,w,run_convert_bytes_nil w src e (T.und _ _ hs) (T.und _ _ he) _ c dst (T.und _ _ hd),zn.quiet H ?_ rfl⟩
     rw [hstr]
     exact .c (.str _)
    | some a =>
     refine ⟨.string (strOfNums ns),w,?_,zn.quiet H (by rw [hstr];exact .c (.str _)) rfl⟩
     rw [run_convert_bytes_string w src dst e _ _ c (T.und _ _ hs) (T.und _ _ he) (T.und _ _ hd),run_bytesToString w a _ c ns (hloads a rfl),foldl_push_bytes]
     simp [strOfNums,ByteArray.empty,ByteArray.emptyWithCapacity]
     rfl
   ·cases hv
  ·cases hv
 ·rename_i e s hs hd
  split at hv
  ·rename_i he
   split at hv
   ·rename_i hsl
    cases hv;cases hx.vH
    refine ⟨_,_,Lib.run_convert_string_bytes w src dst e s (T.und _ _ hs) (T.und _ _ hd) (T.und _ _ he),?_⟩
    have hlen:(qI s).length=s.size:=by simp [qI]
    have hge:=grownCap_ge w s.size 0 e
    have hle:=grownCap_le_maxLen w s.size 0 e (by unfold maxLen;omega)
    unfold maxLen at hle
    have hcs:(Lib.bytesCells w e s).size=grownCap w s.size 0 e:=by
     simp [Lib.bytesCells];omega
    have hmade:Made w (Lib.bytesWorld w e s):=⟨rfl,rfl,rfl,by rw [Lib.bytesWorld_size];omega,fun b hb=>Lib.bytesWorld_at_old w e s b hb⟩
    refine zn.row H hf hmade (Lib.bytesWorld_at_new w e s) (fun i hi hf=>by simp at hf;omega) hlen hge hle (by rw [hcs,Nat.mul_one];exact Nat.le_refl _) (fun x hx=>?_) (fun j i hj hi=>?_)
    ·obtain ⟨b,_,rfl⟩:=List.mem_map.1 hx;rfl
    ·have hi0:i=0:=by simp [qI] at hi;omega
     subst hi0
     have hj2:j < s.data.toList.length:=by simpa [qI] using hj
     refine ⟨.int .u8 (s.data.toList[j]).toNat,?_,?_⟩
     ·rw [Nat.mul_one,Nat.add_zero,Lib.bytesCells,Array.getElem?_append_left (by simpa using hj2)]
      simp [Array.getElem?_map]
      exact ⟨s.data[j]'(by simpa using hj2),Array.getElem?_eq_getElem _,rfl⟩
     ·simp only [qI,List.getElem_map,List.getElem_cons_zero]
      exact .int _ _
   ·cases hv
  ·cases hv
 ·cases hv
end
end Go.Ev
namespace Go.Ev
open Go.RowKit
variable [qo]
theorem zjY {a b:ByteArray} (h:(a == b)=true):a=b:=by
 have:a.data=b.data:=by
  have h':(a.data == b.data)=true:=h
  exact eq_of_beq h'
 cases a;cases b;simp at this;subst this;rfl
section
variable {P:Program} {E:Env} {w:World} {N:Nat → Prop} {ρ:Nat → Pl}
theorem Zr {kt:TypeId} {k:CV} {X:Value} (hk:zaF E kt k=true) (hX:kX w N k X):∃ d,E.und kt=some d ∧ (∀ e,Instr.checkKey e 10000 kt X=Instr.checkKey e 10000 kt X) ∧ ((∃ q a,k = .int q a ∧ X = .int q a ∧ ∃ q',d = .int q') ∨ (∃ s,k = .str s ∧ X = .string s ∧ d = .string)):=by
 unfold zaF at hk
 split at hk
 ·rename_i q q' a hu
  cases hX
  exact ⟨_,hu,fun _=>rfl,.inl ⟨_,_,rfl,rfl,_,rfl⟩⟩
 ·rename_i s hu
  cases hX
  exact ⟨_,hu,fun _=>rfl,.inr ⟨_,rfl,rfl,rfl⟩⟩
 ·cases hk
theorem qP (T:zE P E) {kt:TypeId} {k:CV} {X:Value} (hk:zaF E kt k=true) (hX:kX w N k X) (e:Bool) (w':World):(Instr.checkKey e 10000 kt X).run P w' = .ok () w':=by
 obtain ⟨d,hd,_,⟨q,a,rfl,rfl,q',rfl⟩ | ⟨s,rfl,rfl,rfl⟩⟩:=Zr hk hX
 ·show (Instr.checkKey e (9999 + 1) kt _).run P w'=_
  generalize 9999=n
  rw [Instr.checkKey]
  simp only [Sem.run_bind,T.zt hd,Result.andThen_ok]
  rfl
 ·show (Instr.checkKey e (9999 + 1) kt _).run P w'=_
  generalize 9999=n
  rw [Instr.checkKey]
  simp only [Sem.run_bind,T.zt hd,Result.andThen_ok]
  rfl
theorem yN {d:TypeDesc} {k e:CV} {X Y:Value} {b:Bool} (hd:(∃ q a,k = .int q a ∧ X = .int q a ∧ ∃ q',d = .int q') ∨ (∃ s,k = .str s ∧ X = .string s ∧ d = .string)) (hY:kX w N e Y) (h:zi3 k e=some b):Instr.sameNow d X Y=some b ∧ (b=true → X=Y):=by
 rcases hd with ⟨q,a,rfl,rfl,q',rfl⟩ | ⟨s,rfl,rfl,rfl⟩
 ·unfold zi3 at h
  cases e <;> simp only at h <;> try (cases h;done)
  rename_i q2 a2
  cases hY
  split at h
  ·rename_i e;subst e
   cases h
   refine ⟨by simp [Instr.sameNow],fun h=>?_⟩
   rw [eq_of_beq h]
  ·cases h
 ·unfold zi3 at h
  cases e <;> simp only at h <;> try (cases h;done)
  cases hY
  cases h
  exact ⟨by simp [Instr.sameNow],fun h=>by rw [zjY h]⟩
def wk (w:World) (N:Nat → Prop) (ρ:Nat → Pl) (es:List (CV × AV × Nat)) (L:List MapEntry):Prop:=
 L.length=es.length ∧ ∀ (i:Nat) (h:i < es.length),∃ x,L[i]?=some x ∧ kX w N es[i].1 x.key ∧ x.born=es[i].2.2 ∧ zo w N ρ es[i].2.1 x.val
theorem je {d:TypeDesc} {k:CV} {X:Value} (hd:(∃ q a,k = .int q a ∧ X = .int q a ∧ ∃ q',d = .int q') ∨ (∃ s,k = .str s ∧ X = .string s ∧ d = .string)):∀ (es:List (CV × AV × Nat)) (L:List MapEntry) (i:Nat) (r:Option (Nat × AV)),wk w N ρ es L → zaC k es i=some r →
  (r=none ∧ Instr.findNow d X L i=some none) ∨ ∃ j v y,r=some (i + j,v) ∧ Instr.findNow d X L i=some (some (i + j,y.val)) ∧ L[j]?=some y ∧ X=y.key ∧ ∃ (hj:j < es.length),v=es[j].2.1
 | [],L,i,r,hL,h=>by
  simp only [zaC] at h;cases h
  have:L=[]:=List.length_eq_zero_iff.1 hL.1
  subst this
  exact .inl ⟨rfl,rfl⟩
 | e :: es,[],i,r,hL,h=>by cases hL.1
 | e :: es,y :: L,i,r,hL,h=>by
  obtain ⟨x,hx,h1,h2,h3⟩:=hL.2 0 (by simp)
  simp only [List.getElem?_cons_zero,Option.some.injEq] at hx
  subst hx
  simp only [List.getElem_cons_zero] at h1 h2 h3
  have hL':wk w N ρ es L:=⟨by simpa using hL.1,fun j hj=>by
   have:=hL.2 (j + 1) (by simpa using hj)
   simp only [List.getElem?_cons_succ,List.getElem_cons_succ] at this
   exact this⟩
  unfold zaC at h
  split at h
  ·rename_i hk
   cases h
   obtain ⟨g1,g2⟩:=yN hd h1 hk
   exact .inr ⟨0,e.2.1,y,rfl,by simp [Instr.findNow,g1],rfl,g2 rfl,by simp,rfl⟩
  ·rename_i hk
   obtain ⟨g1,_⟩:=yN hd h1 hk
   rcases je hd es L (i + 1) r hL' h with ⟨a,b⟩ | ⟨j,v,z,a,b,c,f,hj,g⟩
   ·exact .inl ⟨a,by simp [Instr.findNow,g1,b]⟩
   ·refine .inr ⟨j + 1,v,z,by rw [a];congr 2;omega,?_,by simpa using c,f,by simpa using hj,by simpa using g⟩
    simp only [Instr.findNow,g1,b]
    congr 3;omega
  ·cases h
theorem vn (T:zE P E) {kt:TypeId} {d:TypeDesc} (hu:E.und kt=some d) {X:Value} {L:List MapEntry} {r:Option (Nat × Value)} (h:Instr.findNow d X L 0=some r) (w':World):(Instr.findKey kt X L).run P w' = .ok r w':=by
 simp [Instr.findKey,T.zt hu,h]
theorem Vf {h:List zf} (H:zw N h ρ w) {id:Nat} {es:List (CV × AV × Nat)} {clk:Nat} (hk:h[id]?=some (.mp es clk)) :
  owns h ρ id ∧ ∃ A,w.heap[(ρ id).b]?=some (.map A clk) ∧ wk w N ρ es A.toList:=by
 obtain ⟨hp,A,hh,hl,hc⟩:=H.own id _ hk
 refine ⟨⟨⟨_,hk,by simp,by simp⟩,hp⟩,A,hh,by simpa using hl,fun i hi=>?_⟩
 obtain ⟨x,hx,r⟩:=hc i hi
 exact ⟨x,by rw [Array.getElem?_toList];exact hx,r⟩
theorem Xu {h:List zf} (H:zw N h ρ w) {m:AV} {M:Value} {es:List (CV × AV × Nat)} (hm:zo w N ρ m M) (he:Kf h m=some es) :
  ((M = .map none ∧ es=[]) ∨ ∃ r A clk,M = .map (some r) ∧ w.heap[r]?=some (.map A clk) ∧ wk w N ρ es A.toList) ∧ ∀ e,e ∈ es → AV.sc (born h) e.2.1=true:=by
 unfold Kf at he
 split at he
 ·cases he
  cases hm with | c hm=>cases hm;exact ⟨.inl ⟨rfl,rfl⟩,by simp⟩
 ·rename_i id
  split at he
  ·rename_i es' clk hk
   cases he
   cases hm
   obtain ⟨_,A,hA,hE⟩:=Vf H hk
   exact ⟨.inr ⟨_,A,clk,rfl,hA,hE⟩,fun e hE=>ze.1 (H.scope id _ hk) _ (List.mem_map.2 ⟨e,hE,rfl⟩)⟩
  ·cases he
 ·cases he
theorem zfJ {v:Value} {a:AV} (h:zjU v=some a):zo w N ρ a v ∧ ∀ q,a.sc q=true:=Jy h
theorem ziH (T:zE P E) {t:TypeId} {a:AV} (h:E.zval t=some a) (w':World):∃ v,(zeroValue t).run P w' = .ok v w' ∧ zo w N ρ a v ∧ ∀ q,a.sc q=true:=by
 obtain ⟨i,v,hi,hv,hl⟩:=T.zval t a h
 obtain ⟨h1,h2⟩:=zfJ (w:=w) (N:=N) (ρ:=ρ) hl
 exact ⟨v,by simp [zeroValue,typeInfo,hi,hv],h1,h2⟩
theorem JQ (T:zE P E) {h:List zf} {nw:Nat} {t:TypeId} {r:Option (Option AV)} {R:Option Value} {v:AV} {U:List (Nat × zf)} (H:zw N h ρ w) (hf:kA h nw)
  (hr:∀ x,r=some (some x) → ∃ y,R=some y ∧ zo w N ρ x y) (hn:r=some none → R=none) (hv:Zg E t r nw=some (v,U)) :
  ∃ y w',(Instr.makeMap t R).run P w = .ok y w' ∧ zn N h ρ w v (app h U) y w':=by
 have key:(Instr.makeMap t R).run P w = .ok (.map (some w.heap.size)) (w.alloc (.map #[] 0)) ∧ v = .mp nw ∧ U=[(nw,.mp [] 0)]:=by
  unfold Zg at hv
  split at hv
  ·cases hv;rw [hn rfl];exact ⟨rfl,rfl,rfl⟩
  ·rename_i k n
   split at hv
   ·rename_i kt et hu
    cases hv
    obtain ⟨y,rfl,hy⟩:=hr _ rfl
    cases hy.int_eq
    exact ⟨by simp [Instr.makeMap,T.zt hu,asInt];rfl,rfl,rfl⟩
   ·cases hv
  ·cases hv
 obtain ⟨hrun,rfl,rfl⟩:=key
 refine ⟨_,_,hrun,?_⟩
 let p:Pl:=⟨w.heap.size,0,0,0,false⟩
 refine zn.new (p:=p) H hf (Made.alloc w _) (fun _=>Nat.le_refl _) (by simp) rfl ⟨rfl,#[],qZ w _,rfl,fun i hi=>absurd hi (by simp)⟩ ?_ (by simp [AV.sc])
 have:=zo.mp (w:=w.alloc (.map #[] 0)) (N:=N) (ρ:=upd ρ nw p) nw
 rw [zV] at this;exact this
theorem XN (T:zE P E) {h:List zf} {t:TypeId} {m k v:AV} {ok:Bool} {M K:Value} (H:zw N h ρ w) (hm:zo w N ρ m M) (hk:zo w N ρ k K) (hv:xq E t m k ok h=some v) :
  ∃ y,(Instr.lookup t M K ok).run P w = .ok y w ∧ zo w N ρ v y ∧ v.sc (born h)=true:=by
 have pair:∀ {u:AV} {x:Value} (b:Bool),zo w N ρ u x → u.sc (born h)=true → zo w N ρ (Vr ok u b) (if ok then .tuple #[x,.bool b] else x) ∧ (Vr ok u b).sc (born h)=true:=fun {u x} b hu hs=>by
  cases ok
  ·exact ⟨hu,hs⟩
  ·refine ⟨?_,by simp [Vr,AV.sc,AV.sc.scAll,hs]⟩
   have:=zo.tup (w:=w) (N:=N) (ρ:=ρ) [u,.c (.bool b)] [x,.bool b] rfl (fun i h1 h2=>by
    match i,h1 with
    | 0,_=>exact hu
    | 1,_=>exact .c (.bool b))
   simpa [Vr] using this
 unfold xq at hv
 split at hv
 ·rename_i kt et kc hu
  split at hv
  ·rename_i hok
   cases hk with | c hk =>
   split at hv
   ·rename_i es hes
    obtain ⟨hM,hsc⟩:=Xu H hm hes
    obtain ⟨d,hd,_,hd'⟩:=Zr hok hk
    have fin:∀ (L:List MapEntry),wk w N ρ es L → (∃ i x,(Instr.findKey kt K L).run P w = .ok (some (i,x)) w ∧ zo w N ρ v (if ok then .tuple #[x,.bool true] else x) ∧ v.sc (born h)=true) ∨
      ((Instr.findKey kt K L).run P w = .ok none w ∧ ∃ z,(zeroValue et).run P w = .ok z w ∧ zo w N ρ v (if ok then .tuple #[z,.bool false] else z) ∧ v.sc (born h)=true):=fun L hL=>by
     split at hv
     ·rename_i i u hf
      cases hv
      rcases je hd' es L 0 _ hL hf with ⟨a,_⟩ | ⟨j,v',y,a,b,c,f,hj,g⟩
      ·cases a
      ·cases a
       obtain ⟨x,hx,_,_,hr⟩:=hL.2 j hj
       rw [c] at hx;cases hx
       exact .inl ⟨_,y.val,vn T hd b w,pair true (by rw [g];exact hr) (by rw [g];exact hsc _ (List.getElem_mem hj))⟩
     ·rename_i hf
      obtain ⟨z,hz,he⟩:=Option.map_eq_some_iff.1 hv
      cases he
      rcases je hd' es L 0 _ hL hf with ⟨_,b⟩ | ⟨j,v',y,a,_⟩
      ·obtain ⟨zv,h1,h2,h3⟩:=ziH (w:=w) (N:=N) (ρ:=ρ) T hz w
       exact .inr ⟨vn T hd b w,zv,h1,pair false h2 (h3 _)⟩
      ·cases a
     ·cases hv
    rcases hM with ⟨rfl,rfl⟩ | ⟨r,A,clk,rfl,hA,hE⟩
    ·rcases fin [] ⟨rfl,fun i hi=>absurd hi (by simp)⟩ with ⟨i,x,h1,h3⟩ | ⟨h1,z,h2,h3⟩
     ·exact ⟨_,by simp only [Instr.lookup,Sem.run_bind,T.zt hu,Result.andThen_ok,Sem.run_pure,qP T hok hk,h1],h3⟩
     ·exact ⟨_,by simp only [Instr.lookup,Sem.run_bind,T.zt hu,Result.andThen_ok,Sem.run_pure,qP T hok hk,h1,h2],h3⟩
    ·rcases fin A.toList hE with ⟨i,x,h1,h3⟩ | ⟨h1,z,h2,h3⟩
     ·exact ⟨_,by simp only [Instr.lookup,Sem.run_bind,T.zt hu,Result.andThen_ok,Sem.run_pure,MapKept.run_getObj_map hA,qP T hok hk,h1],h3⟩
     ·exact ⟨_,by simp only [Instr.lookup,Sem.run_bind,T.zt hu,Result.andThen_ok,Sem.run_pure,MapKept.run_getObj_map hA,qP T hok hk,h1,h2],h3⟩
   ·cases hv
  ·cases hv
 ·cases hv
theorem zeR {d:TypeDesc} {k:CV} {X:Value} (hd:(∃ q a,k = .int q a ∧ X = .int q a ∧ ∃ q',d = .int q') ∨ (∃ s,k = .str s ∧ X = .string s ∧ d = .string)) (w':World):(Instr.keyThatStays X X).run P w' = .ok X w':=by
 have:Instr.sameBits 10000 X X=true:=by
  rcases hd with ⟨q,a,rfl,rfl,q',rfl⟩ | ⟨s,rfl,rfl,rfl⟩
  ·simp [Instr.sameBits]
  ·show (s == s)=true
   exact show (s.data == s.data)=true from BEq.rfl
 simp [Instr.keyThatStays,this]
theorem xw {h:List zf} (H:zw N h ρ w) {id:Nat} (ho:owns h ρ id) {A:Array MapEntry} {clk:Nat} (hA:w.heap[(ρ id).b]?=some (.map A clk)) (o:Obj) :
  let w':World:={ w with heap:=w.heap.setIfInBounds (ρ id).b o }
  xe (ρ id).b w w' ∧ w'.heap[(ρ id).b]?=some o ∧ ∀ b,N b → N b ∧ w'.heap[b]?=w.heap[b]?:=by
 obtain ⟨h1,h2⟩:=MapKept.heap_set (w:=w) (o':=o) hA
 exact ⟨⟨rfl,rfl,rfl,by simp,h2⟩,h1,fun b hN=>⟨hN,h2 b (fun e=>H.apart id ho (e ▸ hN))⟩⟩
theorem zn.zgE {N:Nat → Prop} {h:List zf} {ρ:Nat → Pl} {w w':World} {id:Nat} {k:zf} (H:zw N h ρ w) (hl:owns h ρ id) (hw:xe (ρ id).b w w') (hku:k ≠ .zy)
  (hs:AV.sc.scAll (born h) k.avs=true) (hb:ka w' N ρ (ρ id) k) {v:AV} {x:Value} (hr:zo w' N ρ v x) (hv:∀ q,v.sc q=true):zn N h ρ w v (qW h id k) x w':=by
 obtain ⟨H',K⟩:=H.wrote hl hw hku hs hb
 exact ⟨⟨N,ρ,H',hr,K,hv _⟩⟩
theorem Wz (T:zE P E) {h:List zf} {t:TypeId} {m k v:AV} {M K V:Value} {U:List (Nat × zf)} (H:zw N h ρ w) (hm:zo w N ρ m M) (hk:zo w N ρ k K) (hx:zo w N ρ v V) (hvs:v.sc (born h)=true) (hv:zhA E t m k v h=some U) :
  ∃ w',(Instr.mapUpdate t M K V).run P w = .ok () w' ∧ zn N h ρ w .und (app h U) undef w':=by
 unfold zhA at hv
 split at hv
 ·rename_i kt et id kc hu
  split at hv
  ·rename_i hok
   cases hk with | c hk =>
   cases hm
   split at hv
   ·rename_i es clk hb
    obtain ⟨r,hf,he⟩:=Option.map_eq_some_iff.1 hv
    cases he
    obtain ⟨d,hd,_,hd'⟩:=Zr hok hk
    obtain ⟨hown,A,hA,hE⟩:=Vf H hb
    have hsc:=H.scope id _ hb
    rcases je hd' es A.toList 0 r hE hf with ⟨rfl,b⟩ | ⟨j,v',y,rfl,b,c,f,hj,g⟩
    ·obtain ⟨hw,hh,hst⟩:=xw H hown hA (.map (A.push { key:=K,val:=V,born:=clk }) (clk + 1))
     refine ⟨{ w with heap:=w.heap.setIfInBounds (ρ id).b (.map (A.push { key:=K,val:=V,born:=clk }) (clk + 1)) },by simp only [Instr.mapUpdate,Sem.run_bind,T.zt hu,Result.andThen_ok,MapKept.run_getObj_map hA,qP T hok hk,vn T hd b,MapKept.run_setObj_map _ hA],?_⟩
     refine zn.wrote H hown hw (by simp [ziB]) ?_ ⟨hown.2,_,hh,by simp [ziB,hE.1.symm],fun i hi=>?_⟩
     ·simp only [ziB,zf.avs,List.map_append,List.map_cons,List.map_nil]
      exact ze.2 fun x hx=>by
       rcases List.mem_append.1 hx with hx | hx
       ·exact ze.1 hsc x hx
       ·rw [List.mem_singleton.1 hx];exact hvs
     ·have hl:A.size=es.length:=by simpa using hE.1
      rcases Nat.lt_or_ge i es.length with hlt | hge
      ·obtain ⟨x,hx1,h1,h2,h3⟩:=hE.2 i hlt
       refine ⟨x,?_,?_⟩
       ·rw [Array.getElem?_push_lt (by omega)]
        rw [Array.getElem?_toList] at hx1
        rw [← hx1,Array.getElem?_eq_getElem (by omega)]
       ·simp only [List.getElem_append_left hlt]
        exact ⟨h1.mono hst,h2,h3.mono (q:=born h) (ze.1 hsc _ (List.mem_map.2 ⟨_,List.getElem_mem hlt,rfl⟩)) hst fun _ _=>rfl⟩
      ·have hi':i=es.length:=by simp [ziB] at hi;omega
       subst hi'
       refine ⟨{ key:=K,val:=V,born:=clk },by rw [← hl];simp,?_⟩
       simp only [List.getElem_append_right (Nat.le_refl _),Nat.sub_self,List.getElem_cons_zero]
       exact ⟨hk.mono hst,trivial,hx.mono (q:=born h) hvs hst fun _ _=>rfl⟩
    ·rw [Nat.zero_add] at b
     have hyA:A[j]?=some y:=by rw [← Array.getElem?_toList];exact c
     obtain ⟨hw,hh,hst⟩:=xw H hown hA (.map (A.modify j fun e=>{ e with key:=K,val:=V }) clk)
     refine ⟨{ w with heap:=w.heap.setIfInBounds (ρ id).b (.map (A.modify j fun e=>{ e with key:=K,val:=V }) clk) },by simp only [Instr.mapUpdate,Sem.run_bind,T.zt hu,Result.andThen_ok,MapKept.run_getObj_map hA,qP T hok hk,vn T hd b,hyA,Option.map_some,Option.getD_some,← f,zeR hd',MapKept.run_setObj_map _ hA],?_⟩
     rw [Nat.zero_add]
     have hl:A.size=es.length:=by simpa using hE.1
     refine zn.wrote H hown hw (by simp [ziB]) ?_ ⟨hown.2,_,hh,by simp [ziB,hl],fun i hi=>?_⟩
     ·simp only [ziB,zf.avs]
      refine ze.2 fun x hx=>?_
      obtain ⟨e,he,rfl⟩:=List.mem_map.1 hx
      obtain ⟨i,hi⟩:=List.mem_iff_getElem?.1 he
      rw [List.getElem?_modify] at hi
      obtain ⟨e0,he0,hi⟩:=Option.map_eq_some_iff.1 hi
      subst hi
      split
      ·exact hvs
      ·exact ze.1 hsc _ (List.mem_map.2 ⟨e0,List.mem_of_getElem? he0,rfl⟩)
     ·have hlt:i < es.length:=by simpa [ziB] using hi
      obtain ⟨x,hx1,h1,h2,h3⟩:=hE.2 i hlt
      rw [Array.getElem?_toList] at hx1
      have h3':=h3.mono (q:=born h) (ze.1 hsc _ (List.mem_map.2 ⟨_,List.getElem_mem hlt,rfl⟩)) hst fun _ _=>rfl
      refine ⟨if j=i then { x with key:=K,val:=V } else x,by
       rw [Array.getElem?_modify,hx1]
       by_cases e:j=i
       ·rw [if_pos e,if_pos e];rfl
       ·rw [if_neg e,if_neg e],?_⟩
      simp only [List.getElem_modify]
      split
      ·rename_i e;subst e
       rw [hyA] at hx1;cases hx1
       exact ⟨by
        have:=h1.mono hst
        rw [← f] at this;exact this,h2,hx.mono (q:=born h) hvs hst fun _ _=>rfl⟩
      ·exact ⟨h1.mono hst,h2,h3'⟩
   ·cases hv
  ·cases hv
 ·cases hv
theorem zcX (T:zE P E) {h:List zf} (H:zw N h ρ w) {t:TypeId} {x v:AV} {X:Value} (hx:zo w N ρ x X) (hv:XG E t x h=some v) (ts:Array TypeId) (ht:ts[0]?=some t) (us:Array Value) (hus:us[0]?=some X) (ty:TypeId) :
  ∃ y,(Builtin.len_ ts ty us).run P w = .ok y w ∧ zo w N ρ v y ∧ ∀ q,v.sc q=true:=by
 unfold XG at hv
 split at hv
 ·split at hv
  ·rename_i id _ _ kt et es clk hu hb
   cases hv
   cases hx
   obtain ⟨_,A,hA,hE⟩:=Vf H hb
   have hl:A.size=es.length:=by simpa using hE.1
   exact ⟨.int .i64 es.length,by simp [Builtin.len_,ht,hus,T.zt hu,MapKept.run_getObj_map hA,goInt,hl],.c (.int _ _),fun _=>rfl⟩
  ·cases hv
 ·exact zdi T hx hv ts ht us hus ty
theorem Y5 (T:zE P E) {h:List zf} (H:zw N h ρ w) {t:TypeId} {x v:AV} {X:Value} {U:List (Nat × zf)} (hx:zo w N ρ x X) (hv:Qd E t x h=some (v,U)) (ts:Array TypeId) (ht:ts[0]?=some t) (us:Array Value) (hus:us[0]?=some X) (ty:TypeId) :
  ∃ y w',(Builtin.clear_ ts ty us).run P w = .ok y w' ∧ zn N h ρ w v (app h U) y w':=by
 unfold Qd at hv
 split at hv
 ·rename_i kt et id hu
  split at hv
  ·rename_i es clk hb
   cases hv
   cases hx
   obtain ⟨hown,A,hA,hE⟩:=Vf H hb
   obtain ⟨hw,hh,hst⟩:=xw H hown hA (.map #[] clk)
   refine ⟨.tuple #[],{ w with heap:=w.heap.setIfInBounds (ρ id).b (.map #[] clk) },by simp [Builtin.clear_,ht,hus,T.zt hu,MapKept.run_getObj_map hA,MapKept.run_setObj_map _ hA],?_⟩
   exact zn.zgE (k:=.mp [] clk) H hown hw (by simp) rfl ⟨hown.2,_,hh,rfl,fun i hi=>absurd hi (by simp)⟩ (zo.tup [] [] rfl fun i hi=>absurd hi (by simp)) fun _=>rfl
  ·cases hv
 ·cases hv
theorem wk.erase {es:List (CV × AV × Nat)} {L:List MapEntry} (h:wk w N ρ es L) (j:Nat):wk w N ρ (es.eraseIdx j) (L.eraseIdx j):=by
 refine ⟨by rw [List.length_eraseIdx,List.length_eraseIdx,h.1],fun i hi=>?_⟩
 rw [List.length_eraseIdx] at hi
 by_cases hij:i < j
 ·obtain ⟨x,hx,r⟩:=h.2 i (by split at hi <;> omega)
  exact ⟨x,by rw [List.getElem?_eraseIdx,if_pos hij];exact hx,by simp only [List.getElem_eraseIdx,dif_pos hij];exact r⟩
 ·obtain ⟨x,hx,r⟩:=h.2 (i + 1) (by split at hi <;> omega)
  exact ⟨x,by rw [List.getElem?_eraseIdx,if_neg hij];exact hx,by simp only [List.getElem_eraseIdx,dif_neg hij];exact r⟩
theorem wk.mono {w':World} {es:List (CV × AV × Nat)} {L:List MapEntry} {q:Nat → Bool} (h:wk w N ρ es L) (hq:∀ e,e ∈ es → AV.sc q e.2.1=true) (hst:∀ b,N b → N b ∧ w'.heap[b]?=w.heap[b]?):wk w' N ρ es L:=
 ⟨h.1,fun i hi=>by
  obtain ⟨x,hx,h1,h2,h3⟩:=h.2 i hi
  exact ⟨x,hx,h1.mono hst,h2,h3.mono (q:=q) (hq _ (List.getElem_mem hi)) hst fun _ _=>rfl⟩⟩
theorem wk.blk {w':World} {es:List (CV × AV × Nat)} {A:Array MapEntry} {clk:Nat} {p:Pl} (h:wk w' N ρ es A.toList) (hp:p.ph=false) (hh:w'.heap[p.b]?=some (.map A clk)):ka w' N ρ p (.mp es clk):=
 ⟨hp,A,hh,by simpa using h.1,fun i hi=>by
  obtain ⟨x,hx,r⟩:=h.2 i hi
  exact ⟨x,by rw [← Array.getElem?_toList];exact hx,r⟩⟩
theorem zkX (A:Array MapEntry) (j:Nat):(A.eraseIdxIfInBounds j).toList=A.toList.eraseIdx j:=by
 unfold Array.eraseIdxIfInBounds
 split
 ·simp
 ·rw [List.eraseIdx_of_length_le (by simp;omega)]
theorem XZ (T:zE P E) {h:List zf} (H:zw N h ρ w) {t:TypeId} {m k v:AV} {M K:Value} {U:List (Nat × zf)} (hm:zo w N ρ m M) (hk:zo w N ρ k K) (hv:xI E t m k h=some (v,U)) (ts:Array TypeId) (ht:ts[0]?=some t) (us:Array Value) (hus:us[0]?=some M) (hus1:us[1]?=some K) (ty:TypeId) :
  ∃ y w',(Builtin.delete_ ts ty us).run P w = .ok y w' ∧ zn N h ρ w v (app h U) y w':=by
 unfold xI at hv
 split at hv
 ·rename_i kt et id kc hu
  split at hv
  ·rename_i hok
   cases hk with | c hk =>
   cases hm
   split at hv
   ·rename_i es clk hb
    obtain ⟨r,hf,he⟩:=Option.map_eq_some_iff.1 hv
    cases he
    obtain ⟨d,hd,_,hd'⟩:=Zr hok hk
    obtain ⟨hown,A,hA,hE⟩:=Vf H hb
    have hsc:=H.scope id _ hb
    have hq:∀ e,e ∈ es → AV.sc (born h) e.2.1=true:=fun e he=>ze.1 hsc _ (List.mem_map.2 ⟨e,he,rfl⟩)
    have hq':∀ j e,e ∈ es.eraseIdx j → AV.sc (born h) e.2.1=true:=fun j e he=>hq e (List.mem_of_mem_eraseIdx he)
    rcases je hd' es A.toList 0 r hE hf with ⟨rfl,b⟩ | ⟨j,v',y,rfl,b,c,f,hj,g⟩
    ·obtain ⟨hw,hh,hst⟩:=xw H hown hA (.map A clk)
     refine ⟨.tuple #[],{ w with heap:=w.heap.setIfInBounds (ρ id).b (.map A clk) },by simp [Builtin.delete_,ht,hus,hus1,T.zt hu,MapKept.run_getObj_map hA,qP T hok hk,vn T hd b,MapKept.run_setObj_map _ hA],?_⟩
     exact zn.zgE (k:=.mp es clk) H hown hw (by simp) hsc ((hE.mono hq hst).blk hown.2 hh) (zo.tup [] [] rfl fun i hi=>absurd hi (by simp)) fun _=>rfl
    ·rw [Nat.zero_add] at b
     obtain ⟨hw,hh,hst⟩:=xw H hown hA (.map (A.eraseIdxIfInBounds j) clk)
     refine ⟨.tuple #[],{ w with heap:=w.heap.setIfInBounds (ρ id).b (.map (A.eraseIdxIfInBounds j) clk) },by simp [Builtin.delete_,ht,hus,hus1,T.zt hu,MapKept.run_getObj_map hA,qP T hok hk,vn T hd b,MapKept.run_setObj_map _ hA],?_⟩
     rw [Nat.zero_add]
     have hE2:=(hE.erase j).mono (hq' j) hst
     rw [← zkX] at hE2
     refine zn.zgE (k:=.mp (es.eraseIdx j) clk) H hown hw (by simp) ?_ (hE2.blk hown.2 hh) (zo.tup [] [] rfl fun i hi=>absurd hi (by simp)) fun _=>rfl
     exact ze.2 fun x hx=>by
      obtain ⟨e,he,rfl⟩:=List.mem_map.1 hx
      exact hq' j e he
   ·cases hv
  ·cases hv
 ·cases hv
end
end Go.Ev
namespace Go.Ev
open Go.RowKit
variable [qo]
theorem Jb (sz:Nat):∀ (n:Nat) (us:List CV),us.length=n * sz → (chunk sz n us).length=n ∧ (∀ y,y ∈ chunk sz n us → y.length=sz) ∧
  ∀ (j i:Nat) (hj:j < (chunk sz n us).length) (hi:i < ((chunk sz n us)[j]).length),us[j * sz + i]?=some ((chunk sz n us)[j])[i]
 | 0,us,_=>⟨rfl,fun y hy=>(by cases hy),fun j i hj=>absurd hj (by simp [chunk])⟩
 | n + 1,us,hl=>by
  have h1:(n + 1) * sz=n * sz + sz:=by rw [Nat.add_mul,Nat.one_mul]
  obtain ⟨g1,g2,g3⟩:=Jb sz n (us.drop sz) (by simp;omega)
  refine ⟨by simp [chunk,g1],fun y hy=>?_,fun j i hj hi=>?_⟩
  ·rcases List.mem_cons.1 hy with rfl | hy
   ·simp;omega
   ·exact g2 y hy
  ·cases j with
   | zero =>
    simp only [chunk,List.getElem_cons_zero] at hi ⊢
    have:i < sz:=by simp at hi;omega
    rw [Nat.zero_mul,Nat.zero_add,List.getElem?_eq_getElem (by simp at hi;omega)]
    simp
   | succ j =>
    simp only [chunk,List.getElem_cons_succ] at hi ⊢
    have:=g3 j i (by simpa [chunk] using hj) hi
    rw [← this,List.getElem?_drop]
    congr 1
    rw [Nat.add_mul,Nat.one_mul];omega
section
variable {P:Program} {E:Env} (T:zE P E) {w:World} {N:Nat → Prop} {ρ:Nat → Pl} {h:List zf} (H:zw N h ρ w)
include T H
theorem Ke {t:TypeId} {x v:AV} {lo hi:Option AV} {X:Value} {Lo Hi:Option Value} {nw:Nat} {U:List (Nat × zf)} (hf:kA h nw) (hx:zo w N ρ x X) (hsc:x.sc (born h)=true)
  (hlo:lo=none → Lo=none) (hlo':∀ u,lo=some u → ∃ y,Lo=some y ∧ zo w N ρ u y) (hhi:hi=none → Hi=none) (hhi':∀ u,hi=some u → ∃ y,Hi=some y ∧ zo w N ρ u y)
  (hv:xD E t x lo hi h nw=some (v,U)) :
  ∃ y w',(Instr.sliceAt t X Lo Hi none).run P w = .ok y w' ∧ zn N h ρ w v (app h U) y w':=by
 unfold xD at hv
 split at hv
 ·rename_i n e id hu
  split at hv
  ·rename_i sz cs hsz hb
   split at hv
   ·rename_i us hus
    split at hv
    ·rename_i hc
     obtain ⟨hp,hul,hnm⟩:=hc
     split at hv
     ·rename_i b hbd
      obtain ⟨a,ha,he⟩:=Option.map_eq_some_iff.1 hv
      cases he
      cases hx with
      | ptr _ _ =>
       obtain ⟨hph,hbase,vs,bt,fr,hh,hfr,hl,hcell⟩:=H.own id _ hb
       have h1:=zP (P:=P) (X:=Hi) hbd hhi hhi' n (Nat.le_refl _)
       have h2:=zP (P:=P) (X:=Lo) ha hlo hlo' b (Nat.le_refl _)
       have hs:(Instr.sliceBounds false n n Lo Hi none).run P w = .ok (a,b,n) w:=qi
        (h1.imp (fun z=>z) fun ⟨k,i,e,_,_,hr⟩=>⟨_,e,hr⟩) (h2.imp (fun z=>z) fun ⟨k,i,e,_,_,hr⟩=>⟨_,e,hr⟩)
       have hbl:b ≤ n:=by rcases h1 with ⟨_,h⟩ | ⟨_,_,_,_,h,_⟩ <;> omega
       have hab:a ≤ b:=by rcases h2 with ⟨_,h⟩ | ⟨_,_,_,_,h,_⟩ <;> omega
       have hcl:=ki hus
       obtain ⟨g1,g2,g3⟩:=Jb sz n us hul
       let p:Pl:=⟨(ρ id).b,0,vs.size,sz,false⟩
       have hown:owns h ρ id:=⟨⟨_,hb,by simp,by simp⟩,hph⟩
       have hblk:ka w N (upd ρ nw p) p (.rows sz e (chunk sz n us)):=by
        refine ⟨rfl,g2,.inr ⟨rfl,vs,bt,fr,hh,hfr,rfl,by simp [p,g1];omega,fun j i hj hi=>?_⟩⟩
        have hk:=g3 j i hj hi
        obtain ⟨hlt,hke⟩:=List.getElem?_eq_some_iff.1 hk
        obtain ⟨y,hy,hry⟩:=hcell (j * sz + i) (by omega)
        refine ⟨y,by simpa [p] using hy,?_⟩
        rw [← hke]
        exact vp _ _ _ (vA hus (j * sz + i) (by omega) hlt) hry
       obtain ⟨HM,KM⟩:=H.move hown hf (xe.refl _ w) (p:=p) rfl (by simp) rfl hblk
       refine ⟨.slice (some (if n=a then ⟨(ρ id).b,(ρ id).base + 0,none⟩ else ⟨(ρ id).b,(ρ id).base + 0 + a * sz,none⟩)) (b - a) (n - a),w,?_,⟨⟨N,upd ρ nw p,HM,?_,KM,?_⟩⟩⟩
       ·simp only [Instr.sliceAt,T.zt hu,hs,T.zM hsz,Sem.run_bind,Result.andThen_ok,Sem.run_pure,Instr.sureAddr,add_plain]
       ·rw [hbase]
        have hsize:vs.size=n * sz:=by omega
        split
        ·have:=zo.sl (w:=w) (N:=N) (ρ:=upd ρ nw p) nw a (b - a) (n - a) (0 + 0) (by simp [p]) (fun hc=>absurd (by omega) hc) (by omega) (by simp only [zV,p,Nat.zero_add,Nat.add_sub_cancel' (show a ≤ n by omega)];omega) (by omega)
         simpa [p] using this
        ·have:=zo.sl (w:=w) (N:=N) (ρ:=upd ρ nw p) nw a (b - a) (n - a) (0 + 0 + a * sz) (by simp [p]) (fun _=>by simp [p]) (by omega) (by simp only [zV,p,Nat.zero_add,Nat.add_sub_cancel' (show a ≤ n by omega)];omega) (by omega)
         simpa [p] using this
       ·show born (qW (qW h id .gone) nw _) nw=true
        have hidl:id < h.length:=(List.getElem?_eq_some_iff.1 hb).1
        have hlenD:(qW h id .gone).length=h.length:=by unfold qW;rw [if_pos hidl];simp
        unfold born;rw [qe (by rw [hlenD];exact hf.le)]
     ·cases hv
    ·cases hv
   ·cases hv
  ·cases hv
 ·cases hv
theorem Vx {t u ty:TypeId} {s x v:AV} {S X:Value} {nw:Nat} {U:List (Nat × zf)} (hi:zbM E u=true) (hf:kA h nw) (hs:zo w N ρ s S) (hx:zo w N ρ x X) (hv:QR E t s x nw=some (v,U)) :
  ∃ y w',(Builtin.append_ #[t,u] ty #[S,X]).run P w = .ok y w' ∧ zn N h ρ w v (app h U) y w':=by
 unfold zbM at hi
 split at hi
 ·rename_i k hk
  unfold QR at hv
  split at hv
  ·rename_i e n hu
   cases hs.Qy
   cases hx.int_eq
   split at hv
   ·rename_i sz by_ z hsz hby hz
    split at hv
    ·rename_i hc
     obtain ⟨hp,hbp,hzl,h0,hfit⟩:=hc
     cases hv
     obtain ⟨i0,hi0,hsz0⟩:=T.size e sz hsz
     obtain ⟨i1,hi1,hby0⟩:=T.bytes e by_ hby
     obtain ⟨i2,v0,hi2,hv0,hl0⟩:=T.zero e z hz
     rw [hi0] at hi1 hi2;cases hi1;cases hi2
     have hzs:v0.cells.size=sz:=by have:=(qy (w:=w) (N:=N) (ρ:=ρ) hl0).1;omega
     have hut:=T.und _ _ hu
     have hku:=T.und _ _ hk
     have hn:n.toNat ≤ 140737488355328:=Nat.le_trans (Nat.le_mul_of_pos_right _ hbp) hfit
     have hnn:((n.toNat:Nat):Int)=n:=Int.toNat_of_nonneg h0
     have hw:IntKind.i64.wrap n=n:=by rw [IntKind.wrap_i64];omega
     have hneg:¬ (n < 0):=by omega
     have hb2:n * (i0.bytes:Int)=((n.toNat * by_:Nat):Int):=by rw [Int.natCast_mul,hnn,hby0]
     have h48i:¬ (281474976710656 < n * (i0.bytes:Int)):=by rw [hb2];omega
     by_cases hz0:n.toNat=0
     ·have hn0:n=0:=by omega
      subst hn0
      refine ⟨.slice none 0 0,w,?_,?_⟩
      ·simp [Builtin.append_,run_underlying hut,run_underlying hku,sizeOf,typeInfo,hi0,asInt,asIntOf,IntKind.wrap_i64]
      ·show zn N h ρ w (.sl nw 0 0) (qW h nw (kI E sz e [])) _ w
       exact zn.new (p:=⟨0,0,0,sz,true⟩) H hf (Made.refl w) (fun h=>by cases h) XY.1 VY (ka.kI ⟨rfl,by simp,.inl ⟨rfl,rfl⟩⟩) (.sn nw (by simp)) (by simp [AV.sc])
     ·have h1:¬ (n.toNat=0):=hz0
      have hn1:¬ (n ≤ 0):=by omega
      have h63':¬ (9223372036854775807 < n):=by omega
      have hnx:Builtin.nextslicecap n.toNat 0 * i0.bytes ≤ 281474976710656:=growslice_fits (by omega) (by rw [hby0];omega)
      have h48':¬ (281474976710656 < Builtin.nextslicecap n.toNat 0 * i0.bytes):=by omega
      have hmul:¬ (n.toNat=0 ∨ i0.size=0):=by omega
      have hmax:max n 0=n:=by omega
      have hmul2:¬ n.toNat * i0.size=0:=by
       rw [hsz0];exact fun h=>by rcases Nat.mul_eq_zero.1 h with h | h <;> omega
      let cap:=grownCap w n.toNat 0 e
      have hcap:n.toNat ≤ cap:=grownCap_ge w _ _ e
      have hcm:cap ≤ 9223372036854775807:=by have:=grownCap_le_maxLen w n.toNat 0 e (by unfold maxLen;omega);unfold maxLen at this;exact this
      let C:Array Value:=Builtin.zeroCells v0.cells n.toNat ++ Builtin.zeroCells v0.cells (cap - n.toNat)
      refine ⟨.slice (some ⟨w.heap.size,0,none⟩) n.toNat cap,w.drew.alloc (.cells C e),?_,?_⟩
      ·simp [Builtin.append_,run_underlying hut,run_underlying hku,sizeOf,typeInfo,zeroValue,hi0,hv0,asInt,asIntOf,hw,hneg,h48i,hz0,h63',h48',hn1,hmul,hmax,hmul2,Question.forced,Builtin.firstCells,newRow,grownCap,C,cap,hnn]
      ·have hsizeC:C.size=cap * sz:=by
        simp only [C,Array.size_append,size_zeroCells,hzs]
        rw [← Nat.add_mul,Nat.add_sub_cancel' hcap]
       refine zn.kI H hf (Made.wu w _) (ja w _) (vz _) (by simp) hcap hcm (by rw [hsizeC];exact Nat.le_refl _) (fun x hx=>by rw [(List.mem_replicate.1 hx).2];exact hzl) (fun j i hj hi=>?_)
       have hj':j < n.toNat:=by simpa using hj
       have hi':i < z.length:=by simpa using hi
       obtain ⟨x,hx,hr⟩:=(qy (w:=w.drew.alloc (.cells C e)) (N:=N) (ρ:=ρ) hl0).2 i hi'
       refine ⟨x,?_,by simpa using hr⟩
       have hlt:j * sz + i < n.toNat * sz:=vV hj' (by omega)
       obtain ⟨hli,hle⟩:=Array.getElem?_eq_some_iff.1 hx
       have hmod:(j * sz + i) % sz=i:=(Ju (j:=j) (by omega)).2
       rw [Array.getElem?_append_left (by rw [size_zeroCells,hzs];exact hlt)]
       simp only [Builtin.zeroCells,hzs]
       rw [Array.getElem?_map,Array.getElem?_range,if_pos hlt]
       simp only [Option.map_some,hmod]
       rw [getElem!_pos v0.cells i hli,hle]
    ·cases hv
   ·cases hv
  ·cases hv
 ·cases hi
theorem zjj {u:TypeId} {x:AV} {X:Value} {ys:List (List CV)} {sz:Nat} (hp:0 < sz) (hx:zo w N ρ x X) (hr:wY E u h sz x=some ys) (hl:∀ y,y ∈ ys → y.length=sz) (m:Nat) (hm:m ≤ ys.length) :
  ∃ news,(∀ w':World,(Builtin.lenOf X).run P w' = .ok ys.length w') ∧ (Builtin.firstCells sz m X).run P w = .ok news.toArray w ∧ qa w N sz (ys.take m) news:=by
 have hsl:∀ id off len e sz' xs,x = .sl id off len → h[id]?=some (.rows sz' e xs) → ys ≠ [] → sz'=sz:=fun id off len e sz' xs hxe hb hne=>by
  subst hxe
  have h1:=(H.own id _ hb).2.1
  unfold wY at hr
  split at hr
  ·rename_i hh;cases hh
  ·unfold rowOf at hr
   simp only [hb] at hr
   split at hr
   ·cases hr
    obtain ⟨y,hy⟩:=List.exists_mem_of_ne_nil _ hne
    rw [← hl y hy];exact (h1 y (List.mem_of_mem_drop (List.mem_of_mem_take hy))).symm
   ·cases hr
  ·cases hr
 have cut:∀ news:List Value,qa w N sz ys news → qa w N sz (ys.take m) (news.take (m * sz)):=fun news hrow=>by
  have hml:m * sz ≤ news.length:=by rw [hrow.1];exact Nat.mul_le_mul_right sz hm
  refine ⟨by simp [Nat.min_eq_left hml,Nat.min_eq_left hm],fun u hu=>hrow.2.1 u (List.mem_of_mem_take hu),fun j i hj hi=>?_⟩
  have hj':j < m:=by simp at hj;omega
  have e1:(ys.take m)[j]=ys[j]'(by omega):=by simp
  have hi':i < (ys[j]'(by omega)).length:=by rw [← e1];exact hi
  obtain ⟨v,hv,hrv⟩:=hrow.2.2 j i (by omega) hi'
  have hi2:i < sz:=by rw [hl _ (List.getElem_mem _)] at hi';exact hi'
  refine ⟨v,?_,by simpa [e1] using hrv⟩
  rw [List.getElem?_take_of_lt (vV hj' hi2)];exact hv
 unfold wY at hr
 split at hr
 ·rename_i s hu
  split at hr
  ·rename_i h1
   subst h1
   cases hr;cases hx.vH
   have hlen:(qI s).length=s.size:=by simp [qI]
   have hrow:qa w N 1 (qI s) (byteCells s):=by
    refine ⟨?_,?_,?_⟩
    ·rw [byteCells_length,hlen,Nat.mul_one]
    ·intro u hu;obtain ⟨_,_,rfl⟩:=List.mem_map.1 hu;rfl
    ·intro j i hj hi
     have hi0:i=0:=by rw [hl _ (List.getElem_mem _)] at hi;omega
     subst hi0
     have hj2:j < s.data.toList.length:=by simpa [qI] using hj
     refine ⟨.int .u8 (s.data.toList[j]).toNat,by rw [Nat.mul_one,Nat.add_zero,byteCells,List.getElem?_map,List.getElem?_eq_getElem hj2];rfl,?_⟩
     simp only [qI,List.getElem_map,List.getElem_cons_zero]
     exact .int _ _
   refine ⟨(byteCells s).take (m * 1),fun _=>by rw [hlen];rfl,?_,cut _ hrow⟩
   rw [Nat.mul_one]
   simp only [Builtin.firstCells,byteCells,Sem.run_pure]
   congr 1
   apply Array.toList_inj.1
   simp [List.map_take]
  ·cases hr
 ·rename_i e hu
  have rd:∃ A c news,X = .slice A ys.length c ∧ qa w N sz ys news ∧ (A=none → ys=[]) ∧ (∀ a,A=some a → ∀ (j:Nat) (u:Value),news[j]?=some u → w.cell? (a.add j)=some u):=by
   by_cases hne:ys=[]
   ·subst hne
    have key:∃ A c,X = .slice A 0 c:=by
     unfold rowOf at hr
     split at hr
     ·cases hx.Qy;exact ⟨_,_,rfl⟩
     ·cases hr
      cases hx with | c hx =>
      cases hx with
      | lst _ _ _ A c=>exact ⟨A,c,rfl⟩
     ·rename_i id off len
      split at hr
      ·split at hr
       ·have:len=0:=by
         have:=congrArg List.length (Option.some.inj hr)
         simp at this;omega
        subst this
        cases hx with
        | sn _ _=>exact ⟨_,_,rfl⟩
        | sl _ _ _ cap o=>exact ⟨_,_,rfl⟩
       ·cases hr
      ·cases hr
     ·cases hr
    obtain ⟨A,c,rfl⟩:=key
    exact ⟨A,c,[],rfl,qa.nil w N sz,fun _=>rfl,fun _ _ _ _ h=>by simp at h⟩
   ·obtain ⟨A,c,news,h1,_,_,h2,h3,h4⟩:=xU H hp hx hr hl (fun id off len e sz' xs h1 h2=>hsl id off len e sz' xs h1 h2 hne)
    exact ⟨A,c,news,h1,h2,h3,h4⟩
  obtain ⟨A,c,news,rfl,hrow,hA,hcell⟩:=rd
  refine ⟨news.take (m * sz),fun _=>rfl,?_,cut _ hrow⟩
  have hml:m * sz ≤ news.length:=by rw [hrow.1];exact Nat.mul_le_mul_right sz hm
  cases A with
  | none =>
   have:=hA rfl
   subst this
   have hn:news=[]:=List.eq_nil_of_length_eq_zero (by rw [hrow.1];simp)
   subst hn
   simp [Builtin.firstCells]
  | some a=>exact run_firstCells_some w sz m a _ c _ (by simp [Nat.min_eq_left hml]) (fun j v hj=>hcell a rfl j v (by
    rw [List.getElem?_take] at hj
    split at hj
    ·exact hj
    ·cases hj))
 ·cases hr
theorem Ym {t u ty:TypeId} {d x v:AV} {D X:Value} {U:List (Nat × zf)} (hd:zo w N ρ d D) (hx:zo w N ρ x X) (hv:WZ E t u d x h=some (v,U)) (us:Array Value) (h0:us[0]?=some D) (h1:us[1]?=some X) (ts:Array TypeId) (hts:ts[0]?=some t) :
  ∃ y w',(Builtin.copy_ ts ty us).run P w = .ok y w' ∧ zn N h ρ w v (app h U) y w':=by
 unfold WZ at hv
 split at hv
 ·rename_i e id off len hu
  split at hv
  ·rename_i sz e' xs sz' hb hsz
   split at hv
   ·rename_i ys hys
    split at hv
    ·rename_i hc
     obtain ⟨rfl,hp,hol,hall⟩:=hc
     cases hv
     have hyl:=zgs hall
     let m:=min ys.length len
     have hmy:m ≤ ys.length:=Nat.min_le_left _ _
     have hml:m ≤ len:=Nat.min_le_right _ _
     obtain ⟨news,hlen,hcells,hrow⟩:=zjj T H hp hx hys hyl m hmy
     obtain ⟨hpsz,hxl,hcase⟩:=H.own id _ hb
     have hidl:id < h.length:=(List.getElem?_eq_some_iff.1 hb).1
     have htl:(ys.take m).length=m:=by simp;omega
     have hnl:news.length=m * sz':=by rw [hrow.1,htl]
     have run:∀ (A:Option Addr) (cap:Nat),D = .slice A len cap → (w':World) → (∀ a,A=some a → (storeCells a news).run P w = .ok () w') → (A=none → w'=w) → (Builtin.copy_ ts ty us).run P w = .ok (.int .i64 (m:Nat)) w':=fun A cap hD w' hs hn=>by
      have hmm:Nat.min ys.length len=m:=rfl
      subst hD
      cases A with
      | none =>
       cases hn rfl
       simp only [Builtin.copy_,hts,h0,h1,Sem.run_bind,T.zt hu,Result.andThen_ok,hlen,T.zM hsz,hmm,hcells,Sem.run_pure,goInt]
      | some a =>
       have:=hs a rfl
       simp only [Builtin.copy_,hts,h0,h1,Sem.run_bind,T.zt hu,Result.andThen_ok,hlen,T.zM hsz,hmm,hcells,Sem.run_pure,goInt,this]
     have hput0:qW h id (.rows sz' e' xs)=h:=by
      unfold qW;rw [if_pos hidl]
      exact (List.getElem?_eq_some_iff.1 hb).2 ▸ List.set_getElem_self hidl
     cases hd with
     | sn _ hph =>
      have hm0:m=0:=by omega
      refine ⟨_,w,run none 0 rfl w (fun a ha=>by cases ha) (fun _=>rfl),?_⟩
      show zn N h ρ w (.c (.int .i64 (m:Nat))) (qW h id (.rows sz' e' (kK xs 0 (ys.take m)))) _ w
      rw [hm0]
      simp only [List.take_zero,kK,hput0]
      exact zn.quiet H (.c (.int _ _)) rfl
     | sl _ _ _ cap o hph ho hc1 hc2 hm9 =>
      rcases hcase with ⟨h9,_⟩ | ⟨_,cur,bt,fr,hh,hsoft,hsize,hrange,hcell⟩
      ·rw [hph] at h9;cases h9
      have hown:owns h ρ id:=⟨⟨_,hb,by simp,by simp⟩,hph⟩
      have hm1:(off + m) * sz' ≤ xs.length * sz':=Nat.mul_le_mul_right sz' (by omega)
      rw [Nat.add_mul] at hm1
      obtain ⟨o',ho',hfit⟩:∃ o',(m ≠ 0 → o'=(ρ id).base + off * sz') ∧ o'=o:=⟨o,fun h=>by rw [← hpsz];exact ho (by omega),rfl⟩
      by_cases hm0:m=0
      ·have hn0:news=[]:=List.eq_nil_of_length_eq_zero (by rw [hnl,hm0,Nat.zero_mul])
       refine ⟨_,w,run _ cap rfl w (fun a ha=>by rw [hn0];rfl) (fun ha=>by cases ha),?_⟩
       show zn N h ρ w (.c (.int .i64 (m:Nat))) (qW h id (.rows sz' e' (kK xs off (ys.take m)))) _ w
       rw [hm0]
       simp only [List.take_zero,kK,hput0]
       exact zn.quiet H (.c (.int _ _)) rfl
      ·have hoE:o=(ρ id).base + off * sz':=by rw [← hfit];exact ho' hm0
       obtain ⟨w',hr,hw,hh'⟩:=jS (P:=P) (ρ id).b o bt fr news 0 cur w hh hsoft (by rw [hoE,hnl];omega) hrow.2.1
       refine ⟨_,w',run _ cap rfl w' (fun a ha=>by cases ha;exact hr) (fun ha=>by cases ha),?_⟩
       have hst:∀ b,N b → N b ∧ w'.heap[b]?=w.heap[b]?:=fun b hN=>⟨hN,hw.old b (fun e=>H.apart id hown (e ▸ hN))⟩
       have hsl:(kK xs off (ys.take m)).length=xs.length:=zp _ _ _
       have hget:∀ n,(kK xs off (ys.take m))[n]?=if off ≤ n ∧ n < off + m then (ys.take m)[n - off]? else xs[n]?:=fun n=>by
        rw [qm _ _ _ _ (by rw [htl];omega),htl]
       have hel:∀ j (hj:j < (kK xs off (ys.take m)).length),((kK xs off (ys.take m))[j]).length=sz':=fun j hj=>by
        have hg:=hget j
        rw [List.getElem?_eq_getElem hj] at hg
        split at hg
        ·exact hyl _ (List.mem_of_mem_take (List.mem_of_getElem? hg.symm))
        ·exact hxl _ (List.mem_of_getElem? hg.symm)
       have hblk:ka w' N ρ (ρ id) (.rows sz' e' (kK xs off (ys.take m))):=by
        refine ⟨hpsz,fun y hy=>?_,.inr ⟨hph,_,bt,fr,hh',by simpa [zp] using hsoft,by simp [zp,hsize],by simpa [zp,hsl] using hrange,fun j i hj hi=>?_⟩⟩
        ·obtain ⟨j,hj,rfl⟩:=List.getElem_of_mem hy
         exact hel j hj
        ·have hi3:i < sz':=by rw [hel j hj] at hi;exact hi
         have hj':j < xs.length:=by rw [← hsl];exact hj
         have hj1:(j + 1) * sz' ≤ xs.length * sz':=Nat.mul_le_mul_right sz' hj'
         rw [Nat.add_mul,Nat.one_mul] at hj1
         simp only [List.getElem?_toArray,Nat.add_zero]
         rw [qm _ _ _ _ (by simp only [Array.length_toList];rw [hoE,hnl];omega)]
         have hg:=hget j
         rw [List.getElem?_eq_getElem hj] at hg
         split at hg
         ·rename_i hin
          have hlt:=vV (n:=m) (show j - off < m by omega) hi3
          have hsub:(j - off) * sz'=j * sz' - off * sz':=Nat.sub_mul _ _ _
          have hjm:off * sz' ≤ j * sz':=Nat.mul_le_mul_right sz' hin.1
          rw [if_pos (by rw [hoE,hnl];omega)]
          obtain ⟨hlt2,he2⟩:=List.getElem?_eq_some_iff.1 hg.symm
          obtain ⟨y,hy,hry⟩:=hrow.2.2 (j - off) i hlt2 (by rw [he2];exact hi)
          refine ⟨y,?_,?_⟩
          ·rw [show (ρ id).base + (j * sz' + i) - o=(j - off) * sz' + i by rw [hoE];omega];exact hy
          ·have:((kK xs off (ys.take m))[j]'hj)[i]'hi=((ys.take m)[j - off]'hlt2)[i]'(by rw [he2];exact hi):=by simp [he2]
           rw [this];exact hry.mono hst
         ·rename_i hout
          have hne:¬ (o ≤ (ρ id).base + (j * sz' + i) ∧ (ρ id).base + (j * sz' + i) < o + news.length):=by
           rw [hoE,hnl]
           rcases Nat.lt_or_ge j off with hlt | hge
           ·have:(j + 1) * sz' ≤ off * sz':=Nat.mul_le_mul_right sz' hlt
            rw [Nat.add_mul,Nat.one_mul] at this
            omega
           ·have:(off + m) * sz' ≤ j * sz':=Nat.mul_le_mul_right sz' (by omega)
            rw [Nat.add_mul] at this
            omega
          rw [if_neg hne]
          obtain ⟨hlt2,he2⟩:=List.getElem?_eq_some_iff.1 hg.symm
          obtain ⟨y,hy,hry⟩:=hcell j i hlt2 (by rw [he2];exact hi)
          refine ⟨y,by simpa using hy,?_⟩
          have:((kK xs off (ys.take m))[j]'hj)[i]'hi=(xs[j]'hlt2)[i]'(by rw [he2];exact hi):=by simp [he2]
          rw [this];exact hry.mono hst
       obtain ⟨HW,KW⟩:=H.wrote hown hw (by simp) rfl hblk
       exact ⟨⟨N,ρ,HW,.c (.int _ _),KW,rfl⟩⟩
    ·cases hv
   ·cases hv
  ·cases hv
 ·cases hv
theorem XM {t:TypeId} {x v:AV} {lo hi:Option AV} {X:Value} {Lo Hi:Option Value} {nw:Nat} {U:List (Nat × zf)} (hf:kA h nw) (hx:zo w N ρ x X) (hsc:x.sc (born h)=true)
  (hlo:lo=none → Lo=none) (hlo':∀ u,lo=some u → ∃ y,Lo=some y ∧ zo w N ρ u y) (hhi:hi=none → Hi=none) (hhi':∀ u,hi=some u → ∃ y,Hi=some y ∧ zo w N ρ u y)
  (hv:sliceB E t x lo hi h nw=some (v,U)) :
  ∃ y w',(Instr.sliceAt t X Lo Hi none).run P w = .ok y w' ∧ zn N h ρ w v (app h U) y w':=by
 have plain:(Qe E t x lo hi h).map (·,([]:List (Nat × zf)))=some (v,U) → ∃ y w',(Instr.sliceAt t X Lo Hi none).run P w = .ok y w' ∧ zn N h ρ w v (app h U) y w':=fun hv=>by
  obtain ⟨v',hv',he⟩:=Option.map_eq_some_iff.1 hv
  cases he
  obtain ⟨y,hr,hrep,hs⟩:=XQ T H hx hlo hlo' hhi hhi' hv'
  exact ⟨y,w,hr,zn.quiet H hrep (hs _ hsc)⟩
 unfold sliceB at hv
 split at hv
 ·exact Ke T H hf hx hsc hlo hlo' hhi hhi' hv
 ·exact plain hv
end
end Go.Ev
namespace Go.Ev
open Go.RowKit
variable [qo]
theorem v8 {w:World} {N:Nat → Prop} {ρ:Nat → Pl} {t:List AV} {a:Act} (S:x7 w N ρ t a.tmps):∀ (ps:List (Nat × Operand)) (l:List (Nat × AV)),parts t ps=some l →
  l.length=ps.length ∧ (∀ (i:Nat) (h1:i < l.length) (h2:i < ps.length),l[i].1=ps[i].1 ∧ zo w N ρ l[i].2 (a.eval ps[i].2)) ∧ ∀ q,AV.sc.scAll q t=true → ∀ p,p ∈ l → p.2.sc q=true
 | [],l,h=>by simp [parts] at h;subst h;exact ⟨rfl,fun i h1=>absurd h1 (by simp),by simp⟩
 | (i0,x) :: ps,l,h=>by
  unfold parts at h
  split at h
  ·rename_i v l' hv hl
   cases h
   obtain ⟨h1,h2,h3⟩:=v8 S ps l' hl
   refine ⟨by simp [h1],fun i a b=>?_,fun q hq p hp=>?_⟩
   ·cases i with
    | zero=>exact ⟨rfl,zz S hv⟩
    | succ i=>exact h2 i (by simpa using a) (by simpa using b)
   ·rcases List.mem_cons.1 hp with rfl | hp
    ·exact kB hq hv
    ·exact h3 q hq p hp
  ·cases h
theorem jh {w:World} {N:Nat → Prop} {ρ:Nat → Pl} {t:List AV} {a:Act} (S:x7 w N ρ t a.tmps):∀ (ps:List Operand) (l:List AV),jj t ps=some l →
  l.length=ps.length ∧ (∀ (i:Nat) (h1:i < l.length) (h2:i < ps.length),zo w N ρ l[i] (a.eval ps[i])) ∧ ∀ q,AV.sc.scAll q t=true → AV.sc.scAll q l=true
 | [],l,h=>by simp [jj] at h;subst h;exact ⟨rfl,fun i h1=>absurd h1 (by simp),fun _ _=>rfl⟩
 | x :: ps,l,h=>by
  unfold jj at h
  split at h
  ·rename_i v l' hv hl
   cases h
   obtain ⟨h1,h2,h3⟩:=jh S ps l' hl
   refine ⟨by simp [h1],fun i a b=>?_,fun q hq=>?_⟩
   ·cases i with
    | zero=>exact zz S hv
    | succ i=>exact h2 i (by simpa using a) (by simpa using b)
   ·simp only [AV.sc.scAll,Bool.and_eq_true]
    exact ⟨kB hq hv,h3 q hq⟩
  ·cases h
theorem zb0 {q:Nat → Bool} {t:List AV} (ht:AV.sc.scAll q t=true):∀ (ps:List (Nat × Operand)) (l:List (Nat × AV)),parts t ps=some l → ∀ p,p ∈ l → p.2.sc q=true
 | [],l,h,p,hp=>by simp [parts] at h;subst h;cases hp
 | (i,x) :: ps,l,h,p,hp=>by
  unfold parts at h
  split at h
  ·rename_i v vs hv hvs
   cases h
   rcases List.mem_cons.1 hp with rfl | hp
   ·exact kB ht hv
   ·exact zb0 ht ps vs hvs p hp
  ·cases h
def Yld (P:Program) (o:Oper) (a:Act) (N:Nat → Prop) (h:List zf) (ρ:Nat → Pl) (w:World) (v:AV) (h':List zf):Prop:=
 ∃ nx x w',(execOp a.eval o).run P w = .ok nx w' ∧ (nx = .value x ∨ (nx = .skip ∧ x=undef)) ∧ zn N h ρ w v h' x w'
theorem Yld.val {P:Program} {o:Oper} {a:Act} {N:Nat → Prop} {h:List zf} {ρ:Nat → Pl} {w:World} {v:AV} {h':List zf} {x:Value} {w':World} (hr:(execOp a.eval o).run P w = .ok (.value x) w') (ho:zn N h ρ w v h' x w'):Yld P o a N h ρ w v h':=
 ⟨_,x,w',hr,.inl rfl,ho⟩
theorem wq {t:List AV} {x:Option Operand} {y:Option AV} (h:Jt t x=some y):(x=none ∧ y=none) ∨ ∃ o v,x=some o ∧ y=some v ∧ opd t o=some v:=by
 cases x with
 | none=>simp [Jt] at h;exact .inl ⟨rfl,h.symm⟩
 | some o =>
  simp only [Jt] at h
  obtain ⟨v,hv,rfl⟩:=Option.map_eq_some_iff.1 h
  exact .inr ⟨o,v,rfl,rfl,hv⟩
theorem ZF {P:Program} {E:Env} (T:zE P E) {N:Nat → Prop} {h:List zf} {ρ:Nat → Pl} {w:World} (H:zw N h ρ w) {t:List AV} {a:Act} (S:x7 w N ρ t a.tmps) (ht:AV.sc.scAll (born h) t=true) {o:Oper} {nw:Nat} {v:AV} {U:List (Nat × zf)} (hf:kA h nw)
  (hv:kE E o.op o.type t h nw=some (v,U)):Yld P o a N h ρ w v (app h U):=by
 obtain ⟨dst,op,ty,pos,after,guard⟩:=o
 simp only at hv
 unfold kE at hv
 split at hv
 ·-- a nil slice
  split at hv
  ·rename_i e hu
   obtain ⟨sz,hsz,he⟩:=Option.map_eq_some_iff.1 hv
   cases he
   exact Yld.val (x:=.slice none 0 0) (w':=w) rfl (zn.new (p:=⟨0,0,0,sz,true⟩) H hf (Made.refl w) (fun h=>by cases h) XY.1 VY (ka.kI ⟨rfl,by simp,.inl ⟨rfl,rfl⟩⟩) (.sn nw (by simp)) (by simp [AV.sc]))
  ·cases hv
 ·rename_i x
  obtain ⟨u,hu,he⟩:=Option.map_eq_some_iff.1 hv
  cases he
  exact Yld.val (x:=a.eval x) (w':=w) (by simp [execOp]) (zn.quiet H (zz S hu) (kB ht hu))
 ·rename_i x _
  obtain ⟨u,hu,he⟩:=Option.map_eq_some_iff.1 hv
  cases he
  exact Yld.val (x:=a.eval x) (w':=w) (by simp [execOp]) (zn.quiet H (zz S hu) (kB ht hu))
 ·-- pick
  rename_i c x y
  split at hv
  ·rename_i p u1 u2 h1 h2 h3
   cases hv
   have hc:=(zz S h1).xH
   obtain ⟨hr,hs⟩:=X8 (p:=p) (zz S h2) (zz S h3)
   exact Yld.val (x:=if p then a.eval x else a.eval y) (w':=w) (by simp [execOp,hc,asBool]) (zn.quiet H hr (hs _ (kB ht h2) (kB ht h3)))
  ·cases hv
 ·-- alloc
  obtain ⟨z,hz,he⟩:=Option.map_eq_some_iff.1 hv
  cases he
  obtain ⟨y,w',hr,ho⟩:=zab T H hf hz
  exact Yld.val (by simp [execOp,hr]) ho
 ·-- box
  rename_i e x
  split at hv
  ·rename_i u hu
   obtain ⟨cs,hcs,he⟩:=Option.map_eq_some_iff.1 hv
   cases he
   obtain ⟨y,w',hr,ho⟩:=zeO (P:=P) (e:=e) H hf (zz S hu) (kB ht hu) hcs
   exact Yld.val (by simp [execOp,hr]) ho
  ·cases hv
 ·-- build
  rename_i tt ps
  have hmap:∀ (l:List (Nat × AV)),parts t ps.toList=some l → l.length=(ps.map fun ((i,x):Nat × Operand)=>(i,a.eval x)).size ∧ ∀ (i:Nat) (h1:i < l.length) (h2:i < (ps.map fun ((i,x):Nat × Operand)=>(i,a.eval x)).size),l[i].1=(ps.map fun ((i,x):Nat × Operand)=>(i,a.eval x))[i].1 ∧ zo w N ρ l[i].2 (ps.map fun ((i,x):Nat × Operand)=>(i,a.eval x))[i].2:=fun l hl=>by
   obtain ⟨p1,p2,_⟩:=v8 S ps.toList l hl
   refine ⟨by simp [p1],fun i h1 h2=>?_⟩
   have:=p2 i h1 (by simpa using h2)
   simpa using this
  split at hv
  ·rename_i fs z l hu hz hl
   split at hv
   ·rename_i pl hpl
    obtain ⟨us,hus,he⟩:=Option.map_eq_some_iff.1 hv
    cases he
    obtain ⟨m1,m2⟩:=hmap l hl
    obtain ⟨y,hr,hrep,hs⟩:=Xx T hu hz hpl hus m1 m2
    exact Yld.val (by simp [execOp,hr]) (zn.quiet H hrep (hs _ ((v8 S _ _ hl).2.2 _ ht)))
   ·cases hv
  ·rename_i n e z l hu hz hl
   split at hv
   ·rename_i sz hsz
    obtain ⟨us,hus,he⟩:=Option.map_eq_some_iff.1 hv
    cases he
    obtain ⟨m1,m2⟩:=hmap l hl
    obtain ⟨y,hr,hrep,hs⟩:=Yw T hu hz hsz hus m1 m2
    exact Yld.val (by simp [execOp,hr]) (zn.quiet H hrep (hs _ ((v8 S _ _ hl).2.2 _ ht)))
   ·cases hv
  ·cases hv
 ·-- buildSlice
  rename_i tt len ps
  split at hv
  ·rename_i l hl
   obtain ⟨p1,p2,_⟩:=v8 S ps.toList l hl
   obtain ⟨y,w',hr,ho⟩:=ZH (qs:=ps.map fun ((i,x):Nat × Operand)=>(i,a.eval x)) T H hf (zb0 ht ps.toList l hl) (by simp [p1]) (fun i h1 h2=>by
    have:=p2 i h1 (by simpa using h2)
    simpa using this) hv
   exact Yld.val (by simp [execOp,hr]) ho
  ·cases hv
 ·-- load
  split at hv
  ·rename_i u hu
   obtain ⟨v',hv',he⟩:=Option.map_eq_some_iff.1 hv
   cases he
   obtain ⟨y,hr,hrep,hs⟩:=K6 T H (zz S hu) hv'
   exact Yld.val (by simp [execOp,hr]) (zn.quiet H hrep hs)
  ·cases hv
 ·-- store
  split at hv
  ·rename_i u1 u2 h1 h2
   obtain ⟨U',hU,he⟩:=Option.map_eq_some_iff.1 hv
   cases he
   obtain ⟨w',hr,ho⟩:=W5 T H (zz S h1) (zz S h2) (kB ht h2) hU
   exact ⟨.skip,undef,w',by simp [execOp,hr],.inr ⟨rfl,rfl⟩,ho⟩
  ·cases hv
 ·-- nilCheck
  rename_i x
  split at hv
  ·rename_i id off h1
   cases hv
   have hr:=zz S h1
   have hs:=kB ht h1
   cases hr0:a.eval x <;> rw [hr0] at hr <;> try (cases hr;done)
   cases hr
   exact Yld.val (by simp [execOp,hr0]) (zn.quiet H (.ptr id off) hs)
  ·rename_i cs h1
   cases hv
   have hr:=zz S h1
   cases hr0:a.eval x <;> rw [hr0] at hr <;> try (cases hr;done)
   cases hr with
   | rd _ b o' hN hc=>exact Yld.val (by simp [execOp,hr0]) (zn.quiet H (.rd cs b o' hN hc) rfl)
  ·rename_i id j i h1
   cases hv
   have hr:=zz S h1
   have hs:=kB ht h1
   cases hr0:a.eval x <;> rw [hr0] at hr <;> try (cases hr;done)
   cases hr
   exact Yld.val (by simp [execOp,hr0]) (zn.quiet H (.er id j i) hs)
  ·rename_i f caps h1
   cases hv
   have hr:=zz S h1
   cases hr with | c hr =>
   cases hr0:a.eval x <;> rw [hr0] at hr <;> try (cases hr;done)
   cases hr with
   | fn _ _ vs hl hc=>exact Yld.val (by simp [execOp,hr0]) (zn.quiet H (.c (.fn f caps vs hl hc)) rfl)
  ·rename_i f caps h1
   cases hv
   have hr:=zz S h1
   have hs:=kB ht h1
   cases hr0:a.eval x <;> rw [hr0] at hr <;> try (cases hr;done)
   cases hr with
   | fn _ _ vs hl hc=>exact Yld.val (by simp [execOp,hr0]) (zn.quiet H (.fn f caps vs hl hc) hs)
  ·cases hv
 ·-- binOp
  rename_i bop bt x y yt
  split at hv
  ·rename_i u1 u2 h1 h2
   obtain ⟨v',hv',he⟩:=Option.map_eq_some_iff.1 hv
   cases he
   obtain ⟨z,hr,hrep,hs⟩:=zc6 (x:=x) (y:=y) T (zz S h1) (zz S h2) hv'
   exact Yld.val (x:=z) (w':=w) (by simp only [execOp,Sem.run_bind,hr,Result.andThen_ok,Sem.run_pure]) (zn.quiet H hrep (hs _))
  ·cases hv
 ·-- unOp
  split at hv
  ·rename_i u h1
   obtain ⟨v',hv',he⟩:=Option.map_eq_some_iff.1 hv
   cases he
   obtain ⟨z,hr,hrep,hs⟩:=zeo (P:=P) (zz S h1) hv'
   exact Yld.val (by simp [execOp,hr]) (zn.quiet H hrep (hs _))
  ·cases hv
 ·-- convert
  split at hv
  ·rename_i u h1
   obtain ⟨y,w',hr,ho⟩:=zal T H hf (zz S h1) hv
   exact Yld.val (by simp [execOp,hr]) ho
  ·cases hv
 ·-- makeFunc
  rename_i f first captured
  split at hv
  ·rename_i h0
   obtain ⟨l,hl,he⟩:=Option.map_eq_some_iff.1 hv
   cases he
   obtain ⟨p1,p2,p3⟩:=jh S captured.toList l hl
   have hfirst:first = #[]:=Array.eq_empty_of_size_eq_zero h0
   subst hfirst
   have hrep:zo w N ρ (.fn f l) (.func (.func f) #[] (captured.map a.eval)):=by
    have:=zo.fn (w:=w) (N:=N) (ρ:=ρ) f l (captured.toList.map a.eval) (by simp [p1]) (fun i h1 h2=>by
     have:=p2 i h1 (by simpa using h2)
     rw [List.getElem_map];exact this)
    have e:(captured.toList.map a.eval).toArray=captured.map a.eval:=by rw [← Array.toList_map,Array.toArray_toList]
    rw [e] at this
    exact this
   refine Yld.val (x:=.func (.func f) #[] (captured.map a.eval)) (w':=w) (by simp [execOp,Instr.makeFunc]) (zn.quiet H ?_ ?_)
   ·split
    ·rename_i cs hcs
     have hc:kS (.fn f l)=some (.fn f cs):=by simp only [kS];unfold qt at hcs;rw [hcs];rfl
     exact .c (vp _ _ _ hc hrep)
    ·exact hrep
   ·split
    ·rfl
    ·simp only [AV.sc];exact p3 _ ht
  ·cases hv
 ·-- makeSlice
  split at hv
  ·rename_i u1 u2 h1 h2
   obtain ⟨y,w',hr,ho⟩:=Qx T H hf (zz S h1) (zz S h2) hv
   exact Yld.val (by simp [execOp,hr]) ho
  ·cases hv
 ·-- slice
  rename_i st x lo hi mx
  cases mx with
  | none =>
   simp only [jM] at hv
   split at hv
   ·rename_i u l1 h1' hx hl hh
    have b1:l1=none → lo.map a.eval=none:=fun e=>by
      rcases wq hl with ⟨h1,h2⟩ | ⟨o,v,h1,h2,h3⟩
      ·rw [h1];rfl
      ·rw [h2] at e;cases e
    have b2:∀ u,l1=some u → ∃ y,lo.map a.eval=some y ∧ zo w N ρ u y:=fun u hu=>by
      rcases wq hl with ⟨h1,h2⟩ | ⟨o,v,h1,h2,h3⟩
      ·rw [h2] at hu;cases hu
      ·rw [h2] at hu;cases hu;exact ⟨_,by rw [h1];rfl,zz S h3⟩
    have b3:h1'=none → hi.map a.eval=none:=fun e=>by
      rcases wq hh with ⟨h1,h2⟩ | ⟨o,v,h1,h2,h3⟩
      ·rw [h1];rfl
      ·rw [h2] at e;cases e
    have b4:∀ u,h1'=some u → ∃ y,hi.map a.eval=some y ∧ zo w N ρ u y:=fun u hu=>by
      rcases wq hh with ⟨h1,h2⟩ | ⟨o,v,h1,h2,h3⟩
      ·rw [h2] at hu;cases hu
      ·rw [h2] at hu;cases hu;exact ⟨_,by rw [h1];rfl,zz S h3⟩
    obtain ⟨y,w',hr,ho⟩:=XM (Lo:=lo.map a.eval) (Hi:=hi.map a.eval) T H hf (zz S hx) (kB ht hx) b1 b2 b3 b4 hv
    exact Yld.val (by simp [execOp,hr]) ho
   ·cases hv
  | some mx =>
   cases lo with
   | some _=>simp only [jM] at hv;cases hv
   | none =>
    cases hi with
    | none=>simp only [jM] at hv;cases hv
    | some hi =>
     simp only [jM] at hv
     split at hv
     ·rename_i u k1 k2 hx hh hm
      obtain ⟨v',hv',he⟩:=Option.map_eq_some_iff.1 hv
      cases he
      have e1:=(zz S hh).int_eq
      have e2:=(zz S hm).int_eq
      obtain ⟨y,hr,hrep,hs⟩:=JV (k:=k1) (k':=k2) T H (zz S hx) hv'
      refine Yld.val (x:=y) (w':=w) ?_ (zn.quiet H hrep (hs _))
      simp [execOp,e1,e2,hr]
     ·cases hv
 ·-- fieldAddr
  split at hv
  ·rename_i u h1
   obtain ⟨v',hv',he⟩:=Option.map_eq_some_iff.1 hv
   cases he
   obtain ⟨y,hr,hrep,hs⟩:=Wy T (zz S h1) hv'
   exact Yld.val (by simp [execOp,hr]) (zn.quiet H hrep (hs _ (kB ht h1)))
  ·cases hv
 ·-- indexAddr
  split at hv
  ·rename_i u1 u2 h1 h2
   obtain ⟨v',hv',he⟩:=Option.map_eq_some_iff.1 hv
   cases he
   obtain ⟨y,hr,hrep,hs⟩:=Qw T H (zz S h1) (zz S h2) hv'
   exact Yld.val (by simp [execOp,hr]) (zn.quiet H hrep (hs _ (kB ht h1)))
  ·cases hv
 ·-- index
  split at hv
  ·rename_i u1 u2 h1 h2
   obtain ⟨v',hv',he⟩:=Option.map_eq_some_iff.1 hv
   cases he
   obtain ⟨y,hr,hrep,hs⟩:=W0 T (zz S h1) (zz S h2) hv'
   exact Yld.val (by simp [execOp,hr]) (zn.quiet H hrep (hs _ (kB ht h1)))
  ·cases hv
 ·-- field
  split at hv
  ·rename_i u h1
   obtain ⟨v',hv',he⟩:=Option.map_eq_some_iff.1 hv
   cases he
   obtain ⟨y,hr,hrep,hs⟩:=J6 T (zz S h1) hv'
   exact Yld.val (by simp [execOp,hr]) (zn.quiet H hrep (hs _ (kB ht h1)))
  ·cases hv
 ·-- extract
  rename_i x i
  split at hv
  ·rename_i vs h1
   obtain ⟨v',hv',he⟩:=Option.map_eq_some_iff.1 hv
   cases he
   have hr:=zz S h1
   have hs:=kB ht h1
   cases hr0:a.eval x <;> rw [hr0] at hr <;> try (cases hr;done)
   cases hr with
   | tup _ us hl hc =>
    obtain ⟨hlt,hev⟩:=List.getElem?_eq_some_iff.1 hv'
    refine Yld.val (x:=us[i]'(by omega)) (w':=w) ?_ (zn.quiet H (by rw [← hev];exact hc i hlt (by omega)) (by rw [← hev];exact qp hs hlt))
    simp [execOp,hr0,Instr.extract,List.getElem?_eq_getElem (show i < us.length by omega)]
  ·cases hv
 ·-- makeMap
  rename_i mt r
  obtain ⟨y,w',hr,ho⟩:=JQ (R:=r.map a.eval) T H hf (fun x hx=>by
   rcases wq hx with ⟨h1,h2⟩ | ⟨o,v,h1,h2,h3⟩
   ·cases h2
   ·cases h2;exact ⟨_,by rw [h1];rfl,zz S h3⟩) (fun hx=>by
   rcases wq hx with ⟨h1,h2⟩ | ⟨o,v,h1,h2,h3⟩
   ·rw [h1];rfl
   ·cases h2) hv
  exact Yld.val (by simp [execOp,hr]) ho
 ·-- lookup
  split at hv
  ·rename_i u1 u2 h1 h2
   obtain ⟨v',hv',he⟩:=Option.map_eq_some_iff.1 hv
   cases he
   obtain ⟨y,hr,hrep,hs⟩:=XN T H (zz S h1) (zz S h2) hv'
   exact Yld.val (by simp [execOp,hr]) (zn.quiet H hrep hs)
  ·cases hv
 ·-- mapUpdate
  split at hv
  ·rename_i u1 u2 u3 h1 h2 h3
   obtain ⟨U',hU,he⟩:=Option.map_eq_some_iff.1 hv
   cases he
   obtain ⟨w',hr,ho⟩:=Wz T H (zz S h1) (zz S h2) (zz S h3) (kB ht h3) hU
   exact ⟨.skip,undef,w',by simp [execOp,hr],.inr ⟨rfl,rfl⟩,ho⟩
  ·cases hv
 ·-- insert
  split at hv
  ·rename_i u1 u2 u3 h1 h2 h3
   obtain ⟨U',hU,he⟩:=Option.map_eq_some_iff.1 hv
   cases he
   obtain ⟨w',hr,ho⟩:=Wz T H (zz S h1) (zz S h2) (zz S h3) (kB ht h3) hU
   exact ⟨.skip,undef,w',by simp [execOp,hr],.inr ⟨rfl,rfl⟩,ho⟩
  ·cases hv
 ·-- builtins
  rename_i b args argTypes
  split at hv
  ·rename_i l hl
   obtain ⟨p1,p2,p3⟩:=jh S args.toList l hl
   have hargs:∀ (i:Nat) (h1:i < l.length),∃ y,(args.map a.eval)[i]?=some y ∧ zo w N ρ l[i] y:=fun i h1=>⟨_,by
    rw [Array.getElem?_map,Array.getElem?_eq_getElem (by rw [p1] at h1;simpa using h1)];rfl,by have:=p2 i h1 (by rw [← p1];exact h1);rwa [Array.getElem_toList] at this⟩
   split at hv
   ·-- len
    split at hv
    ·rename_i tt ts x xs hts
     obtain ⟨v',hv',he⟩:=Option.map_eq_some_iff.1 hv
     cases he
     obtain ⟨X,hX,hrX⟩:=hargs 0 (by simp)
     obtain ⟨y,hr,hrep,hs⟩:=zcX T H hrX hv' argTypes (by rw [← Array.getElem?_toList,hts];rfl) _ hX ty
     exact Yld.val (x:=y) (w':=w) (by simp [execOp,resolve,invoke,builtin,hr]) (zn.quiet H hrep (hs _))
    ·cases hv
   ·-- clear
    split at hv
    ·rename_i tt ts x xs hts
     obtain ⟨X,hX,hrX⟩:=hargs 0 (by simp)
     obtain ⟨y,w',hr,ho⟩:=Y5 T H hrX hv argTypes (by rw [← Array.getElem?_toList,hts];rfl) _ hX ty
     exact Yld.val (x:=y) (w':=w') (by simp [execOp,resolve,invoke,builtin,hr]) ho
    ·cases hv
   ·-- delete
    split at hv
    ·rename_i tt ts x k xs hts
     obtain ⟨X,hX,hrX⟩:=hargs 0 (by simp)
     obtain ⟨K,hK,hrK⟩:=hargs 1 (by simp)
     obtain ⟨y,w',hr,ho⟩:=XZ T H hrX hrK hv argTypes (by rw [← Array.getElem?_toList,hts];rfl) _ hX hK ty
     exact Yld.val (x:=y) (w':=w') (by simp [execOp,resolve,invoke,builtin,hr]) ho
    ·cases hv
   ·-- append
    unfold wI at hv
    split at hv
    ·rename_i t1 u1 s x hts2
     have hty:argTypes = #[t1,u1]:=by rw [← Array.toArray_toList (xs:=argTypes),hts2]
     have hsz:args.size=2:=by simpa using p1.symm
     obtain ⟨x0,x1,hA⟩:∃ x0 x1,args = #[x0,x1]:=by
      obtain ⟨l⟩:=args
      match l,hsz with
      | [x0,x1],_=>exact ⟨x0,x1,rfl⟩
     subst hA hty
     have r0:=p2 0 (by simp) (by simp)
     have r1:=p2 1 (by simp) (by simp)
     have hs2:=p3 _ ht
     simp only [AV.sc.scAll,Bool.and_eq_true] at hs2
     split at hv
     ·rename_i hint
      obtain ⟨y,w',hr,ho⟩:=Vx (ty:=ty) T H hint hf r0 r1 hv
      exact Yld.val (x:=y) (w':=w') (by simp at hr;simp [execOp,resolve,invoke,builtin,hr]) ho
     ·obtain ⟨y,w',hr,ho⟩:=JP (ty:=ty) T H hf r0 hs2.1 r1 hv
      exact Yld.val (x:=y) (w':=w') (by simp at hr;simp [execOp,resolve,invoke,builtin,hr]) ho
    ·cases hv
   ·-- cap
    split at hv
    ·rename_i tt ts xs hts
     split at hv
     ·rename_i e hu
      cases hv
      obtain ⟨X,hX,hrX⟩:=hargs 0 (by simp)
      cases hrX.Qy
      have hty0:argTypes[0]?=some tt:=by rw [← Array.getElem?_toList,hts];rfl
      refine Yld.val (x:=.int .i64 0) (w':=w) ?_ (zn.quiet H (.c (.int _ _)) rfl)
      simp [execOp,resolve,invoke,builtin,Builtin.cap_,hX,hty0,T.zt hu,goInt]
     ·cases hv
    ·cases hv
   ·-- copy
    split at hv
    ·rename_i tt uu ts x y xs hts
     obtain ⟨X,hX,hrX⟩:=hargs 0 (by simp)
     obtain ⟨K,hK,hrK⟩:=hargs 1 (by simp)
     obtain ⟨y,w',hr,ho⟩:=Ym T H hrX hrK hv _ hX hK argTypes (by rw [← Array.getElem?_toList,hts];rfl) (ty:=ty)
     exact Yld.val (x:=y) (w':=w') (by simp [execOp,resolve,invoke,builtin,hr]) ho
    ·cases hv
   ·-- max
    obtain ⟨v',hv',he⟩:=Option.map_eq_some_iff.1 hv
    cases he
    obtain ⟨x,r,y,hX,hr,hrep,hs⟩:=xA (P:=P) (w:=w) (N:=N) (ρ:=ρ) true l.length l (args.toList.map a.eval) v (Nat.le_refl _) hv' (by simp [p1]) (fun i h1 h2=>by
     have:=p2 i h1 (by simpa using h2)
     rw [List.getElem_map];exact this)
    simp only [if_true] at hr
    exact Yld.val (x:=y) (w':=w) (by simp [execOp,resolve,invoke,builtin,Builtin.max_,hX,hr]) (zn.quiet H hrep (hs _))
   ·-- min
    obtain ⟨v',hv',he⟩:=Option.map_eq_some_iff.1 hv
    cases he
    obtain ⟨x,r,y,hX,hr,hrep,hs⟩:=xA (P:=P) (w:=w) (N:=N) (ρ:=ρ) false l.length l (args.toList.map a.eval) v (Nat.le_refl _) hv' (by simp [p1]) (fun i h1 h2=>by
     have:=p2 i h1 (by simpa using h2)
     rw [List.getElem_map];exact this)
    simp only [Bool.false_eq_true,if_false] at hr
    exact Yld.val (x:=y) (w':=w) (by simp [execOp,resolve,invoke,builtin,Builtin.min_,hX,hr]) (zn.quiet H hrep (hs _))
   ·cases hv
  ·cases hv
 ·cases hv
end Go.Ev
namespace Go.Ev
open Go.RowKit
variable [qo]
def K7 (P:Program) (f:FuncId) (vs:Array Value) (w:World) (R:Value → World → Prop):Prop:=
 ((callFunc f vs).run P w = .ok (.enter f vs) w ∧ Calls P f vs w fun e w'=>∃ v,e = .returned v ∧ R v w') ∨ ∃ v w',(callFunc f vs).run P w = .ok (.value v) w' ∧ R v w'
theorem K7.mono {P:Program} {f:FuncId} {vs:Array Value} {w:World} {R R':Value → World → Prop} (h:K7 P f vs w R) (hr:∀ v w',R v w' → R' v w'):K7 P f vs w R':=by
 rcases h with ⟨h1,h2⟩ | ⟨v,w',h1,h2⟩
 ·exact .inl ⟨h1,h2.mono fun e w' ⟨v,he,h3⟩=>⟨v,he,hr v w' h3⟩⟩
 ·exact .inr ⟨v,w',h1,hr v w' h2⟩
def Good (P:Program) (f:FuncId) (args:List AV) (h:List zf) (r:AV) (h':List zf):Prop:=
 ∀ (w:World) (N:Nat → Prop) (ρ:Nat → Pl) (vs:List Value),zw N h ρ w → AV.sc.scAll (born h) args=true → args.length=vs.length → (∀ (i:Nat) (h1:i < args.length) (h2:i < vs.length),zo w N ρ args[i] vs[i]) →
  K7 P f vs.toArray w fun v w'=>zn N h ρ w r h' v w'
theorem Good.calls {P:Program} {f:FuncId} {args:List AV} {h:List zf} {r:AV} {h':List zf} (G:Good P f args h r h') {w:World} {N:Nat → Prop} {ρ:Nat → Pl} {vs:List Value} (H:zw N h ρ w) (hs:AV.sc.scAll (born h) args=true) (hl:args.length=vs.length) (hr:∀ (i:Nat) (h1:i < args.length) (h2:i < vs.length),zo w N ρ args[i] vs[i])
  (he:(callFunc f vs.toArray).run P w = .ok (.enter f vs.toArray) w):Calls P f vs.toArray w fun e w'=>∃ v,e = .returned v ∧ zn N h ρ w r h' v w':=by
 rcases G w N ρ vs H hs hl hr with ⟨_,h2⟩ | ⟨v,w',h1,_⟩
 ·exact h2
 ·rw [he] at h1;cases h1
def AV.cl:AV → Bool
 | .c _=>true
 | .agg vs=>clAll vs
 | .tup vs=>clAll vs
 | .rd _=>true
 | _=>false
where
 clAll:List AV → Bool
  | []=>true
  | v :: vs=>AV.cl v && clAll vs
def CV.flat:CV → Bool
 | .lst _ _ _=>false
 | .fn _ _=>false
 | .pt _=>false
 | _=>true
def AV.flat:AV → Bool
 | .c v=>v.flat
 | .agg vs=>flatAll vs
 | .tup vs=>flatAll vs
 | _=>false
where
 flatAll:List AV → Bool
  | []=>true
  | v :: vs=>AV.flat v && flatAll vs
theorem Kz:∀ {l:List AV},AV.cl.clAll l=true ↔ ∀ x,x ∈ l → AV.cl x=true
 | []=>by simp [AV.cl.clAll]
 | x :: l=>by simp [AV.cl.clAll,Kz (l:=l)]
theorem yw:∀ {l:List AV},AV.flat.flatAll l=true ↔ ∀ x,x ∈ l → AV.flat x=true
 | []=>by simp [AV.flat.flatAll]
 | x :: l=>by simp [AV.flat.flatAll,yw (l:=l)]
theorem zo.cl {w:World} {N:Nat → Prop} {ρ ρ':Nat → Pl} {v:AV} {x:Value} (h:zo w N ρ v x) (hc:v.cl=true):zo w N ρ' v x:=by
 induction h with
 | c h=>exact .c h
 | agg us vs hl h ih=>exact .agg us vs hl fun i a b=>ih i a b (Kz.1 hc _ (List.getElem_mem a))
 | tup us vs hl h ih=>exact .tup us vs hl fun i a b=>ih i a b (Kz.1 hc _ (List.getElem_mem a))
 | ptr=>cases hc
 | mp=>cases hc
 | sn=>cases hc
 | sl=>cases hc
 | er=>cases hc
 | es=>cases hc
 | ifc=>cases hc
 | rd cs b o hN h=>exact .rd cs b o hN h
 | fn=>cases hc
 | und=>cases hc
 | dead=>cases hc
theorem zo.flat {w w':World} {N N':Nat → Prop} {ρ ρ':Nat → Pl} {v:AV} {x:Value} (h:zo w N ρ v x) (hc:v.flat=true):zo w' N' ρ' v x:=by
 induction h with
 | c h=>refine .c ?_;cases h <;> first | (cases hc;done) | constructor
 | agg us vs hl h ih=>exact .agg us vs hl fun i a b=>ih i a b (yw.1 hc _ (List.getElem_mem a))
 | tup us vs hl h ih=>exact .tup us vs hl fun i a b=>ih i a b (yw.1 hc _ (List.getElem_mem a))
 | ptr=>cases hc
 | mp=>cases hc
 | sn=>cases hc
 | sl=>cases hc
 | er=>cases hc
 | es=>cases hc
 | ifc=>cases hc
 | rd=>cases hc
 | fn=>cases hc
 | und=>cases hc
 | dead=>cases hc
theorem AV.YL:∀ (v:AV),v.cl=true → ∀ q,v.sc q=true
 | .c _,_,_=>rfl
 | .rd _,_,_=>rfl
 | .agg vs,h,q | .tup vs,h,q=>all vs h q
 | .ptr _ _,h,_ | .mp _,h,_ | .sl _ _ _,h,_ | .er _ _ _,h,_ | .es _ _ _ _,h,_ | .ifc _ _,h,_ | .fn _ _,h,_ | .und,h,_ | .dead,h,_=>by cases h
where
 all:∀ (vs:List AV),AV.cl.clAll vs=true → ∀ q,AV.sc.scAll q vs=true
  | [],_,_=>rfl
  | v :: vs,h,q=>by
   simp only [AV.cl.clAll,Bool.and_eq_true] at h
   simp only [AV.sc.scAll,Bool.and_eq_true]
   exact ⟨AV.YL v h.1 q,all vs h.2 q⟩
def snap (h:List zf):AV → Option AV
 | .sl id off len=>match h[id]? with
  | some (.rows sz _ xs)=>if off + len ≤ xs.length then some (.c (.lst sz false ((xs.drop off).take len))) else none
  | _=>none
 | v=>if v.cl then some v else none
def jK (h:List zf):List AV → Option (List AV)
 | []=>some []
 | v :: vs=>match snap h v,jK h vs with
  | some c,some cs=>some (c :: cs)
  | _,_=>none
def kill (h:List zf):List AV → List zf
 | []=>h
 | .sl id _ _ :: vs=>kill (if id < h.length then h.set id .gone else h) vs
 | _ :: vs=>kill h vs
def zkM (h:List zf) (ρ:Nat → Pl) (args:List AV) (b:Nat):Prop:=∃ id off len,AV.sl id off len ∈ args ∧ owns h ρ id ∧ (ρ id).b=b
theorem w9 {N:Nat → Prop} {h:List zf} {ρ:Nat → Pl} {w:World} (H:zw N h ρ w) {i:Nat} (hi:owns h ρ i):(ρ i).b < w.heap.size:=by
 obtain ⟨⟨k',hk',h1,h2⟩,hph⟩:=hi
 have:=H.own i k' hk'
 cases k' with
 | box cs=>obtain ⟨_,_,vs,t,fr,hh,_⟩:=this;exact (Array.getElem?_eq_some_iff.1 hh).1
 | rows sz e xs =>
  obtain ⟨_,_,⟨h,_⟩ | ⟨_,vs,t,fr,hh,_⟩⟩:=this
  ·rw [h] at hph;cases hph
  ·exact (Array.getElem?_eq_some_iff.1 hh).1
 | vec sz e xs =>
  obtain ⟨_,_,⟨h,_⟩ | ⟨_,vs,t,fr,hh,_⟩⟩:=this
  ·rw [h] at hph;cases hph
  ·exact (Array.getElem?_eq_some_iff.1 hh).1
 | mp es clk=>obtain ⟨_,E,hh,_⟩:=this;exact (Array.getElem?_eq_some_iff.1 hh).1
 | gone=>simp at h1
 | zy=>simp at h2
theorem zbY {N:Nat → Prop} {h:List zf} {ρ ρ':Nat → Pl} {w:World} (H:zw N h ρ w) {args:List AV} {v c:AV} {x:Value} (hm:v ∈ args) (hr:zo w N ρ v x) (hs:snap h v=some c) :
  zo w (fun b=>N b ∨ zkM h ρ args b) ρ' c x ∧ c.cl=true:=by
 have hN:∀ b,N b → (fun b=>N b ∨ zkM h ρ args b) b ∧ w.heap[b]?=w.heap[b]?:=fun b hb=>⟨.inl hb,rfl⟩
 unfold snap at hs
 split at hs
 ·rename_i id off len
  split at hs
  ·rename_i sz e xs hb
   split at hs
   ·rename_i hle
    cases hs
    refine ⟨.c ?_,rfl⟩
    have hlen:((xs.drop off).take len).length=len:=by simp;omega
    obtain ⟨hsz,hszs,hcase⟩:=H.own id _ hb
    cases hr with
    | sn _ hph =>
     rcases hcase with ⟨_,h0⟩ | ⟨h0,_⟩
     ·subst h0
      have:=kX.lst (w:=w) (N:=fun b=>N b ∨ zkM h ρ args b) sz false ((([]:List (List CV)).drop 0).take 0) none 0 (fun _ _=>undef) (fun h=>by cases h) (by simp) (by omega) (by simp) (fun j i hj=>absurd hj (by simp)) (fun j i hj=>absurd hj (by simp))
      simpa using this
     ·rw [hph] at h0;cases h0
    | sl _ _ _ cap o hph ho h1 h2 hm' =>
     rcases hcase with ⟨h0,_⟩ | ⟨_,cur,ty,fr,hh,hf,hsize,hrange,hcell⟩
     ·rw [hph] at h0;cases h0
     ·have hown:owns h ρ id:=⟨⟨_,hb,by simp,by simp⟩,hph⟩
      have key:=kX.lst (w:=w) (N:=fun b=>N b ∨ zkM h ρ args b) sz false ((xs.drop off).take len) (some ⟨(ρ id).b,o,none⟩) cap (fun j i=>(cur[(ρ id).base + ((off + j) * sz + i)]?).getD undef) (fun h=>by cases h) (by rw [hlen];exact h1) hm'
       (fun e he=>hszs e (List.mem_of_mem_drop (List.mem_of_mem_take he))) (fun j i hj hi=>by
        rw [hlen] at hj
        have hjx:off + j < xs.length:=by omega
        obtain ⟨y,hy,_⟩:=hcell (off + j) i hjx (by rw [hszs _ (List.getElem_mem _)];exact hi)
        refine ⟨(ρ id).b,o,rfl,.inr ⟨id,off,len,hm,hown,rfl⟩,?_⟩
        rw [z8 hh,ho (by omega),hsz]
        have e2:(ρ id).base + off * sz + (j * sz + i)=(ρ id).base + ((off + j) * sz + i):=by rw [Nat.add_mul];omega
        rw [e2,hy];rfl)
       (fun j i hj hi=>by
        rw [hlen] at hj
        have hjx:off + j < xs.length:=by omega
        have e1:((xs.drop off).take len)[j]'(by rw [hlen];exact hj)=xs[off + j]:=by simp
        obtain ⟨y,hy,hry⟩:=hcell (off + j) i hjx (by rw [← e1];exact hi)
        simp only [hy,Option.getD_some]
        have:=hry.mono hN
        simpa [e1] using this)
      rw [hlen] at key
      exact key
   ·cases hs
  ·cases hs
 ·split at hs
  ·rename_i hcl
   cases hs
   exact ⟨(hr.mono (q:=fun _=>true) (AV.YL _ hcl _) hN (fun _ _=>rfl):zo w (fun b=>N b ∨ zkM h ρ args b) ρ _ x).cl hcl,hcl⟩
  ·cases hs
theorem Vg {N:Nat → Prop} {h:List zf} {ρ ρ':Nat → Pl} {w:World} (H:zw N h ρ w) {args:List AV}:∀ (l cs:List AV) (vs:List Value),(∀ v,v ∈ l → v ∈ args) → l.length=vs.length → (∀ (i:Nat) (h1:i < l.length) (h2:i < vs.length),zo w N ρ l[i] vs[i]) → jK h l=some cs →
  cs.length=vs.length ∧ (∀ (i:Nat) (h1:i < cs.length) (h2:i < vs.length),zo w (fun b=>N b ∨ zkM h ρ args b) ρ' cs[i] vs[i]) ∧ ∀ q,AV.sc.scAll q cs=true
 | [],cs,vs,_,hl,_,hs=>by
  simp [jK] at hs;subst hs
  exact ⟨hl,fun i h1=>absurd h1 (by simp),fun _=>rfl⟩
 | v :: l,cs,[],_,hl,_,_=>by simp at hl
 | v :: l,cs,x :: vs,hm,hl,hr,hs=>by
  unfold jK at hs
  split at hs
  ·rename_i c cs' hc hcs
   cases hs
   obtain ⟨h1,h2,h3⟩:=Vg H (ρ':=ρ') l cs' vs (fun v hv=>hm v (by simp [hv])) (by simpa using hl) (fun i a b=>hr (i + 1) (by simp;omega) (by simp;omega)) hcs
   obtain ⟨g1,g2⟩:=zbY (ρ':=ρ') H (hm v (by simp)) (hr 0 (by simp) (by simp)) hc
   refine ⟨by simp [h1],fun i a b=>?_,fun q=>by simp only [AV.sc.scAll,Bool.and_eq_true];exact ⟨AV.YL _ g2 q,h3 q⟩⟩
   cases i with
   | zero=>exact g1
   | succ i=>exact h2 i (by simpa using a) (by simpa using b)
  ·cases hs
theorem zw.made {N:Nat → Prop} {h:List zf} {ρ:Nat → Pl} {w w':World} (H:zw N h ρ w) (hm:Made w w'):zw N h ρ w' ∧ Kept N h ρ w N h ρ w':=by
 have hst:∀ b,N b → N b ∧ w'.heap[b]?=w.heap[b]?:=fun b hN=>⟨hN,hm.old b (H.lt b hN)⟩
 refine ⟨⟨fun b hN=>Nat.lt_of_lt_of_le (H.lt b hN) hm.size,H.inj,H.apart,fun i k hk=>?_,H.scope,H.glob.mono hst⟩,?_⟩
 ·exact (H.own i k hk).mono (q:=born h) (H.scope i _ hk) (fun h1 h2 h3=>hm.old _ (w9 H ⟨⟨k,hk,h1,h2⟩,h3⟩)) hst (fun _ _=>rfl)
 ·exact ⟨hm.os,hm.tape,hm.output,hm.size,fun i hi=>⟨hi,rfl⟩,hst,fun b hb=>.inl hb,fun b hb _=>hm.old b hb,fun i hi=>.inr ⟨i,hi,rfl⟩⟩
theorem wJ:∀ (args:List AV) (h:List zf) (i:Nat),(kill h args)[i]?=h[i]? ∨ (i < h.length ∧ (kill h args)[i]?=some .gone)
 | [],_,_=>.inl rfl
 | v :: vs,h,i=>by
  cases v with
  | sl id off len =>
   simp only [kill]
   have hlen:(if id < h.length then h.set id .gone else h).length=h.length:=by split <;> simp
   rcases wJ vs (if id < h.length then h.set id .gone else h) i with h1 | ⟨h1,h2⟩
   ·rw [h1]
    split
    ·rename_i hlt
     by_cases e:i=id
     ·subst e;right;exact ⟨hlt,by simp [hlt]⟩
     ·left;rw [List.getElem?_set_ne (Ne.symm e)]
    ·exact .inl rfl
   ·rw [hlen] at h1;exact .inr ⟨h1,h2⟩
  | _=>simp only [kill];exact wJ vs h i
theorem W6:∀ (args:List AV) (h:List zf) (id off len:Nat),AV.sl id off len ∈ args → id < h.length → (kill h args)[id]?=some .gone
 | [],_,_,_,_,hm,_=>by cases hm
 | v :: vs,h,id,off,len,hm,hlt=>by
  rcases List.mem_cons.1 hm with e | e
  ·subst e
   simp only [kill,if_pos hlt]
   rcases wJ vs (h.set id .gone) id with h1 | ⟨_,h1⟩
   ·rw [h1];simp [hlt]
   ·exact h1
  ·clear hm
   have step:∀ h2:List zf,h2.length=h.length → (kill h2 vs)[id]?=some .gone:=fun h2 hl=>W6 vs h2 id off len e (by omega)
   cases v <;> simp only [kill] <;> apply step
   all_goals first | rfl | (split <;> simp)
theorem XB {h:List zf} {args:List AV} {i:Nat} (hb:born h i=true):born (kill h args) i=true:=by
 unfold born at *
 rcases wJ args h i with h1 | ⟨_,h1⟩
 ·rw [h1];exact hb
 ·rw [h1]
def after (h:List zf) (args:List AV) (r:AV):List zf:=if r.flat then h else kill h args
theorem Good.pure {P:Program} {f:FuncId} {args cs:List AV} {r:AV} {h:List zf} (G:Good P f cs [] r []) (hs:jK h args=some cs) (hr:r.cl=true):Good P f args h r (after h args r):=by
 intro w N ρ vs H hsc hl hrep
 let N1:Nat → Prop:=fun b=>N b ∨ zkM h ρ args b
 have hN1:∀ b,N1 b → b < w.heap.size:=fun b hb=>by
  rcases hb with hb | ⟨id,off,len,_,ho,rfl⟩
  ·exact H.lt b hb
  ·exact w9 H ho
 obtain ⟨g1,g2,g3⟩:=Vg (ρ':=ρ) H (args:=args) args cs vs (fun _ h=>h) hl hrep hs
 have H0:zw N1 [] ρ w:=⟨hN1,fun i j hi=>by obtain ⟨⟨k,hk,_⟩,_⟩:=hi;simp at hk,fun i hi=>by obtain ⟨⟨k,hk,_⟩,_⟩:=hi;simp at hk,fun i k hk=>by simp at hk,fun i cs hk=>by simp at hk,H.glob.mono fun b hb=>⟨.inl hb,rfl⟩⟩
 refine (G w N1 ρ vs H0 (g3 _) g1 g2).mono ?_
 rintro v w' ⟨N2,ρ2,H2,hrv,K,_⟩
 have hnone:∀ i,¬ owns [] ρ i:=fun i hi=>by obtain ⟨⟨k,hk,_⟩,_⟩:=hi;simp at hk
 have hm:Made w w':=⟨K.os,K.tape,K.output,K.size,fun b hb=>K.rest b hb (fun i hi=>absurd hi (hnone i))⟩
 unfold after
 split
 ·rename_i hfl
  obtain ⟨H',K'⟩:=H.made hm
  exact ⟨⟨N,ρ,H',hrv.flat hfl,K',AV.YL _ hr _⟩⟩
 ·have hst:∀ b,N b → N2 b ∧ w'.heap[b]?=w.heap[b]?:=fun b hb=>K.stay b (.inl hb)
  have hcase:∀ i,owns (kill h args) ρ i → owns h ρ i ∧ ∀ off len,AV.sl i off len ∉ args:=fun i hi=>by
   obtain ⟨⟨k,hk,h1,h2⟩,hph⟩:=hi
   rcases wJ args h i with h3 | ⟨_,h3⟩
   ·rw [h3] at hk
    refine ⟨⟨⟨k,hk,h1,h2⟩,hph⟩,fun off len hm=>?_⟩
    have:=W6 args h i off len hm (List.getElem?_eq_some_iff.1 hk).1
    rw [h3,hk] at this;cases this;simp at h1
   ·rw [h3] at hk;cases hk;simp at h1
  refine ⟨⟨N2,ρ,⟨H2.lt,fun i j hi hj=>H.inj i j (hcase i hi).1 (hcase j hj).1,fun i hi hN=>?_,fun i k hk=>?_,fun i c hk=>?_,H2.glob⟩,hrv.cl hr,?_,AV.YL _ hr _⟩⟩
  ·rcases K.from_ _ hN with (h1 | ⟨id,off,len,hmem,ho,he⟩) | h1 | ⟨j,hj,_⟩
   ·exact H.apart i (hcase i hi).1 h1
   ·have:=H.inj id i ho (hcase i hi).1 he
    subst this
    exact (hcase id hi).2 off len hmem
   ·have:=w9 H (hcase i hi).1;omega
   ·exact hnone j hj
  ·rcases wJ args h i with h3 | ⟨_,h3⟩
   ·rw [h3] at hk
    exact (H.own i k hk).mono (q:=born h) (H.scope i _ hk) (fun h1 h2 h4=>hm.old _ (w9 H ⟨⟨k,hk,h1,h2⟩,h4⟩)) hst (fun _ _=>rfl)
   ·rw [h3] at hk;cases hk;trivial
  ·rcases wJ args h i with h3 | ⟨_,h3⟩
   ·rw [h3] at hk
    exact AV.zQ.all (fun i hi=>XB hi) _ (H.scope i _ hk)
   ·rw [h3] at hk;cases hk;rfl
  ·exact ⟨K.os,K.tape,K.output,K.size,fun i hi=>⟨XB hi,rfl⟩,hst,fun b hb=>by
    rcases K.from_ b hb with (h1 | ⟨id,off,len,hmem,ho,he⟩) | h1 | ⟨j,hj,_⟩
    ·exact .inl h1
    ·exact .inr (.inr ⟨id,ho,he⟩)
    ·exact .inr (.inl h1)
    ·exact absurd hj (hnone j),fun b hb _=>hm.old b hb,fun i hi=>.inr ⟨i,(hcase i hi).1,rfl⟩⟩
end Go.Ev
namespace Go.Ev
open Go.RowKit
variable [qo]
structure St where
 t:List AV
 h:List zf
def kN (t:List AV) (d:Option Tmp) (v:AV):List AV:=match d with
 | some d=>t.set d v
 | none=>t
structure Ent where
 N:Nat → Prop
 h:List zf
 ρ:Nat → Pl
 w:World
structure zhS (X:Ent) (s:St) (a:Act) (w:World) (N:Nat → Prop) (ρ:Nat → Pl):Prop where
 heap:zw N s.h ρ w
 slots:x7 w N ρ s.t a.tmps
 sc:AV.sc.scAll (born s.h) s.t=true
 kept:Kept X.N X.h X.ρ X.w N s.h ρ w
 defers:a.defers=[]
def Sim (X:Ent) (s:St) (a:Act) (w:World):Prop:=∃ N ρ,zhS X s a w N ρ
def lift (X:Ent) (Q:Exit → St → Prop):Exit → Act → World → Prop:=fun e a w=>∃ s,Sim X s a w ∧ Q e s
def Run (P:Program) (n:Nat) (c:Code) (Q:Exit → St → Prop) (s:St):Prop:=∀ X a w,X.h.length ≤ n → Sim X s a w → c.wp P (lift X Q) a w
def thenS (K:St → Prop) (Q:Exit → St → Prop):Exit → St → Prop
 | .normal,s=>K s
 | e,s=>Q e s
def vU (id:Nat) (Q:Exit → St → Prop):Exit → St → Prop
 | .exit id',s=>if id'=id then Q .normal s else Q (.exit id') s
 | e,s=>Q e s
section
variable {P:Program} {n:Nat} {Q:Exit → St → Prop} {s:St}
theorem Run.mono {c:Code} {Q':Exit → St → Prop} (h:Run P n c Q s) (hq:∀ e s,Q e s → Q' e s):Run P n c Q' s:=
 fun X a w hX hs=>wp_mono (h X a w hX hs) fun e _ _ ⟨s',h1,h2⟩=>⟨s',h1,hq e s' h2⟩
theorem Run.skip (h:Q .normal s):Run P n .skip Q s:=fun _ _ _ _ hs=>wp_skip ⟨s,hs,h⟩
theorem Run.label {l:Nat} (h:Q .normal s):Run P n (.label l) Q s:=fun _ _ _ _ hs=>wp_label ⟨s,hs,h⟩
theorem Run.exit {id:Nat} (h:Q (.exit id) s):Run P n (.exit id) Q s:=fun _ _ _ _ hs=>wp_exit ⟨s,hs,h⟩
theorem Run.goto {id:Nat} (h:Q (.goto id) s):Run P n (.goto id) Q s:=fun _ _ _ _ hs=>wp_goto ⟨s,hs,h⟩
theorem Run.ret (h:Q .ret s):Run P n .ret Q s:=fun _ _ _ _ hs=>wp_ret ⟨s,hs,h⟩
theorem Run.seq {x y:Code} (h:Run P n x (thenS (Run P n y Q) Q) s):Run P n (.seq x y) Q s:=fun X a w hX hs=>by
 refine wp_seq (wp_mono (h X a w hX hs) ?_)
 rintro e a' w' ⟨s',h1,h2⟩
 cases e with
 | normal=>exact h2 X a' w' hX h1
 | _=>exact ⟨s',h1,h2⟩
theorem Run.block {id:Nat} {c:Code} (h:Run P n c (vU id Q) s):Run P n (.block id c) Q s:=fun X a w hX hs=>by
 refine wp_block (wp_mono (h X a w hX hs) ?_)
 rintro e a' w' ⟨s',h1,h2⟩
 cases e with
 | exit id' =>
  simp only [vU] at h2
  simp only [Exit.inBlock]
  split <;> rename_i he
  ·rw [if_pos he] at h2;exact ⟨s',h1,h2⟩
  ·rw [if_neg he] at h2;exact ⟨s',h1,h2⟩
 | _=>exact ⟨s',h1,h2⟩
theorem Run.loop {c:Code} (I:Nat → St → Prop) (m:Nat) (h0:I m s) (round:∀ m s,I m s → Run P n c (thenS (fun s'=>∃ k,k < m ∧ I k s') Q) s):Run P n (.loop c) Q s:=fun X a w hX hs=>by
 refine wp_loop_ghost (fun m a w=>∃ s,Sim X s a w ∧ I m s) m ⟨s,hs,h0⟩ ?_
 rintro m a w ⟨s1,hs1,hI⟩
 refine wp_mono (round m s1 hI X a w hX hs1) ?_
 rintro e a' w' ⟨s',h1,h2⟩
 cases e with
 | normal=>obtain ⟨k,hk,hI'⟩:=h2;exact ⟨k,hk,s',h1,hI'⟩
 | _=>exact ⟨s',h1,h2⟩
theorem Sim.cond {X:Ent} {a:Act} {w:World} {c:Operand} {b:Bool} (hs:Sim X s a w) (h:opd s.t c=some (.c (.bool b))):a.eval c = .bool b:=by
 obtain ⟨N,ρ,S⟩:=hs
 have:=zz S.slots h
 generalize a.eval c=x at this
 cases this with
 | c h=>cases h;rfl
theorem Run.cond {c:Operand} {x y:Code} {b:Bool} (hc:opd s.t c=some (.c (.bool b))) (h:Run P n (if b then x else y) Q s):Run P n (.cond c x y) Q s:=
 fun X a w hX hs=>wp_cond (hs.cond hc) (h X a w hX hs)
def zB (P:Program) (n:Nat) (ops:Array Oper) (l:List Nat) (Q:Exit → St → Prop) (s:St):Prop:=∀ X a w,X.h.length ≤ n → Sim X s a w → wpOps P ops (lift X Q) l a w
theorem Run.region {id:Nat} {ops:Array Oper} (h:zB P n ops (List.range ops.size) Q s):Run P n (.region id ops false) Q s:=
 fun X a w hX hs=>wp_region (h X a w hX hs)
theorem zB.nil {ops:Array Oper} (h:Q .normal s):zB P n ops [] Q s:=fun _ _ _ _ hs=>⟨s,hs,h⟩
def zC (ops:Array Oper) (t:List AV) (o:Oper):Option Bool:=match o.guard with
 | none=>some true
 | some (j,want)=>match ((ops[j]?).bind (·.dst)).bind (t[·]?) with
  | some (.c (.bool b))=>some (b == want)
  | some .und=>some false
  | _=>none
theorem qQ {X:Ent} {a:Act} {w:World} {ops:Array Oper} {o:Oper} {b:Bool} (hs:Sim X s a w) (h:zC ops s.t o=some b):Region.wanted o (yielded ops a.tmps)=b:=by
 obtain ⟨N,ρ,S⟩:=hs
 unfold zC at h
 unfold Region.wanted
 split at h
 ·rename_i hg;rw [hg];cases h;rfl
 ·rename_i j want hg
  rw [hg]
  unfold yielded
  cases hd:(ops[j]?).bind (·.dst) with
  | none=>rw [hd] at h;simp at h
  | some d =>
   rw [hd] at h
   simp only [Option.bind_some] at h ⊢
   split at h
   ·rename_i v hv
    obtain ⟨x,hx,hr⟩:=S.slots.rep d _ hv
    cases hr with
    | c hr =>
     cases hr
     cases h
     simp only [hd,Option.bind_some,hx]
     cases v <;> cases want <;> rfl
   ·rename_i hv
    obtain ⟨x,hx,hr⟩:=S.slots.rep d _ hv
    cases hr
    cases h
    simp only [hd,Option.bind_some,hx]
    cases want <;> rfl
   ·cases h
theorem x7.put {w:World} {N:Nat → Prop} {ρ:Nat → Pl} {t:List AV} {a:Act} (S:x7 w N ρ t a.tmps) {v:AV} {x:Value} (hr:zo w N ρ v x) (d:Option Tmp):x7 w N ρ (kN t d v) (a.put d x).tmps:=by
 cases d with
 | none=>exact S
 | some d =>
  refine ⟨by simp [kN,Act.put,S.len],fun i u hu=>?_,S.glob⟩
  simp only [kN] at hu
  simp only [Act.put]
  by_cases e:d=i
  ·subst e
   rw [List.getElem?_set_self'] at hu
   cases hd:t[d]? with
   | none=>rw [hd] at hu;simp at hu
   | some u0 =>
    rw [hd] at hu;simp at hu;subst hu
    have:d < a.tmps.size:=by rw [← S.len];exact (List.getElem?_eq_some_iff.1 hd).1
    exact ⟨x,by simp [this],hr⟩
  ·rw [List.getElem?_set_ne e] at hu
   obtain ⟨y,hy,hry⟩:=S.rep i u hu
   exact ⟨y,by rw [Array.getElem?_setIfInBounds_ne e];exact hy,hry⟩
theorem zj8 {q:Nat → Bool} {t:List AV} {d:Option Tmp} {v:AV} (h:AV.sc.scAll q t=true) (hv:v.sc q=true):AV.sc.scAll q (kN t d v)=true:=by
 cases d with
 | none=>exact h
 | some d =>
  refine ze.2 fun x hx=>?_
  rcases List.mem_or_eq_of_mem_set hx with h1 | rfl
  ·exact ze.1 h x h1
  ·exact hv
theorem put_defers (a:Act) (d:Option Tmp) (x:Value):(a.put d x).defers=a.defers:=by cases d <;> rfl
theorem x7.mono {w w':World} {N N':Nat → Prop} {ρ ρ':Nat → Pl} {q:Nat → Bool} {t:List AV} {tmps:Array Value} (S:x7 w N ρ t tmps) (ht:AV.sc.scAll q t=true) (hk:∀ b,N b → N' b ∧ w'.heap[b]?=w.heap[b]?) (hr:∀ i,q i=true → ρ' i = ρ i):x7 w' N' ρ' t tmps:=
 ⟨S.len,fun i v hv=>by
  obtain ⟨x,hx,hrep⟩:=S.rep i v hv
  exact ⟨x,hx,hrep.mono (ze.1 ht _ (List.mem_of_getElem? hv)) hk hr⟩,S.glob.mono hk⟩
theorem Sim.put {X:Ent} {a:Act} {w w':World} {N:Nat → Prop} {ρ:Nat → Pl} (S:zhS X s a w N ρ) {v:AV} {h':List zf} {x:Value} (ho:zn N s.h ρ w v h' x w') (d:Option Tmp):Sim X ⟨kN s.t d v,h'⟩ (a.put d x) w':=by
 obtain ⟨⟨N',ρ',H',hr,K,hsc⟩⟩:=ho
 have S2:x7 w' N' ρ' s.t a.tmps:=S.slots.mono S.sc K.stay fun i hi=>(K.rho i hi).2
 exact ⟨N',ρ',H',S2.put hr d,zj8 (ze.2 fun y hy=>AV.zQ (fun i hi=>(K.rho i hi).1) y (ze.1 S.sc y hy)) hsc,S.kept.trans K,by rw [put_defers];exact S.defers⟩
theorem zB.none {ops:Array Oper} {i:Nat} {l:List Nat} (hi:ops[i]?=none) (h:zB P n ops l Q s):zB P n ops (i :: l) Q s:=fun X a w hX hs=>by
 rw [wpOps_cons];unfold wpOp;rw [hi];exact h X a w hX hs
theorem zB.skip {ops:Array Oper} {i:Nat} {l:List Nat} {o:Oper} (hi:ops[i]?=some o) (hw:zC ops s.t o=some false) (h:zB P n ops l Q ⟨kN s.t o.dst .und,s.h⟩):zB P n ops (i :: l) Q s:=fun X a w hX hs=>by
 rw [wpOps_cons];unfold wpOp;rw [hi]
 simp only [qQ hs hw]
 obtain ⟨N,ρ,S⟩:=hs
 exact h X _ w hX (Sim.put S (zn.quiet S.heap .und rfl) o.dst)
theorem zB.op {E:Env} (T:zE P E) {ops:Array Oper} {i:Nat} {l:List Nat} {o:Oper} {v:AV} {U:List (Nat × zf)} (hi:ops[i]?=some o) (hw:zC ops s.t o=some true) (hv:kE E o.op o.type s.t s.h s.h.length=some (v,U)) (h:zB P n ops l Q ⟨kN s.t o.dst v,app s.h U⟩):zB P n ops (i :: l) Q s:=fun X a w hX hs=>by
 rw [wpOps_cons];unfold wpOp;rw [hi]
 simp only [qQ hs hw,if_true]
 obtain ⟨N,ρ,S⟩:=hs
 refine .inl ?_
 unfold Oper.wp
 obtain ⟨nx,x,w',hr,hnx,ho⟩:=ZF T S.heap S.slots S.sc (.inl rfl) hv
 rw [hr]
 rcases hnx with rfl | ⟨rfl,rfl⟩
 ·exact h X _ w' hX (Sim.put S ho o.dst)
 ·exact h X _ w' hX (Sim.put S ho o.dst)
def opn:CV → AV
 | .pt cs=>.rd cs
 | v=>.c v
theorem zkw {w:World} {N:Nat → Prop} {ρ:Nat → Pl} {c:CV} {x:Value} (h:kX w N c x):zo w N ρ (opn c) x:=by
 cases h with
 | pt cs b o V hN hcell hrep=>exact .rd cs b o hN fun i a=>⟨V i,hcell i a,hrep i a⟩
 | int k n=>exact .c (.int k n)
 | bool b=>exact .c (.bool b)
 | str s=>exact .c (.str s)
 | nl=>exact .c .nl
 | nfn=>exact .c .nfn
 | nptr=>exact .c .nptr
 | nif=>exact .c .nif
 | nmp=>exact .c .nmp
 | fn f cs vs hl h=>exact .c (.fn f cs vs hl h)
 | lst sz x xs A c V hx hc hm hsz hcell hrep=>exact .c (.lst sz x xs A c V hx hc hm hsz hcell hrep)
theorem zli (q:Nat → Bool) (c:CV):(opn c).sc q=true:=by cases c <;> rfl
def zfL (v:AV):Option (FuncId × List AV):=match v with
 | .c (.fn f caps)=>some (f,caps.map opn)
 | .fn f caps=>some (f,caps)
 | _=>none
theorem zbi {w:World} {N:Nat → Prop} {ρ:Nat → Pl} {v:AV} {x:Value} {f:FuncId} {caps:List AV} (hr:zo w N ρ v x) (h:zfL v=some (f,caps)) :
  ∃ vs:List Value,x = .func (.func f) #[] vs.toArray ∧ caps.length=vs.length ∧ (∀ (i:Nat) (h1:i < caps.length) (h2:i < vs.length),zo w N ρ caps[i] vs[i]) ∧ ∀ q,v.sc q=true → AV.sc.scAll q caps=true:=by
 unfold zfL at h
 split at h
 ·cases h
  cases hr with
  | c hr =>
   cases hr with
   | fn _ cs vs hl hc =>
    exact ⟨vs,rfl,by simpa using hl,fun i h1 h2=>by rw [List.getElem_map];exact zkw (hc i (by simpa using h1) h2),fun q _=>ze.2 fun y hy=>by
     obtain ⟨c,_,rfl⟩:=List.mem_map.1 hy
     exact zli q c⟩
 ·cases h
  cases hr with
  | fn _ us vs hl hc=>exact ⟨vs,rfl,hl,hc,fun q hq=>hq⟩
 ·cases h
theorem Ql {o:Oper} {a:Act} {K:Act → World → Prop} {Q:Exit → Act → World → Prop} {f:FuncId} {vs:Array Value} {w:World} {R:Value → World → Prop} (h:K7 P f vs w R) (hr:∀ v w',R v w' → K (a.put o.dst v) w'):o.upon P a K Q ((callFunc f vs).run P w):=by
 rcases h with ⟨h1,h2⟩ | ⟨v,w',h1,h2⟩
 ·rw [h1]
  refine h2.mono ?_
  rintro e w' ⟨v,rfl,h3⟩
  exact hr v w' h3
 ·rw [h1];exact hr v w' h2
theorem zB.call {ops:Array Oper} {i:Nat} {l:List Nat} {o:Oper} {c:Call} {fo:Operand} {fv:AV} {f:FuncId} {caps args:List AV} {r:AV} {h':List zf} (hi:ops[i]?=some o) (hw:zC ops s.t o=some true)
  (hop:o.op = .call c) (hc:c.callee = .value fo) (hf:opd s.t fo=some fv) (hfn:zfL fv=some (f,caps)) (ha:jj s.t c.args.toList=some args) (G:Good P f (args ++ caps) s.h r h') (h:zB P n ops l Q ⟨kN s.t o.dst r,h'⟩):zB P n ops (i :: l) Q s:=fun X a w hX hs=>by
 rw [wpOps_cons];unfold wpOp;rw [hi]
 simp only [qQ hs hw,if_true]
 obtain ⟨N,ρ,S⟩:=hs
 refine .inl ?_
 unfold Oper.wp
 obtain ⟨vs,hvs,hl,hrep,hsc⟩:=zbi (zz S.slots hf) hfn
 obtain ⟨p1,p2,p3⟩:=jh S.slots c.args.toList args ha
 have hfsc:AV.sc.scAll (born s.h) caps=true:=hsc _ (kB S.sc hf)
 let xs:=c.args.toList.map a.eval
 have e1:(execOp a.eval o).run P w=(callFunc f (xs ++ vs).toArray).run P w:=by
  have e2:c.args.map a.eval ++ vs.toArray=(xs ++ vs).toArray:=by
   apply Array.toList_inj.1;simp [xs]
  simp [execOp,hop,resolve,hc,hvs,Deferred.ofValue,invoke]
  rw [e2]
 rw [e1]
 refine Ql (R:=fun v w'=>zn N s.h ρ w r h' v w') (G w N ρ (xs ++ vs) S.heap ?_ (by simp [xs,p1,hl]) ?_) ?_
 ·refine ze.2 fun x hx=>?_
  rcases List.mem_append.1 hx with h1 | h1
  ·exact ze.1 (p3 _ S.sc) x h1
  ·exact ze.1 hfsc x h1
 ·intro i h1 h2
  by_cases hlt:i < args.length
  ·rw [List.getElem_append_left hlt,List.getElem_append_left (by rw [show xs.length=args.length by simp [xs,p1]];exact hlt)]
   have:=p2 i hlt (by rw [← p1];exact hlt)
   simp only [xs,List.getElem_map]
   exact this
  ·have hge:args.length ≤ i:=by omega
   have e3:xs.length=args.length:=by simp [xs,p1]
   rw [List.getElem_append_right hge,List.getElem_append_right (by omega)]
   have:=hrep (i - args.length) (by simp at h1;omega) (by simp [e3] at h2;omega)
   simpa [e3] using this
 ·intro v w' ho
  exact h X _ w' hX (Sim.put S ho o.dst)
end
end Go.Ev
namespace Go.Ev
open Go.RowKit
variable [qo]
def zgz:Option AV → Bool
 | some (.c (.lst _ _ []))=>true
 | _=>false
def zls (E:Env) (t:List AV) (ty:TypeId) (x y:Operand):Bool:=match opd t y with
 | some (.c .nl)=>zgz (opd t x) && (match E.und ty with | some (.slice _)=>true | _=>false)
 | _=>false
def zk7 (E:Env) (t:List AV):Op → Bool
 | .binOp .eql ty x y _=>zls E t ty x y
 | .binOp .neq ty x y _=>zls E t ty x y
 | _=>false
theorem zbV {P:Program} {w:World} {t e:TypeId} {A:Option Addr} {l c:Nat} (hu:P.underlying t=some (.slice e)):(∀ op x y,(eqGuard op t x y (.slice A l c) (.slice none 0 0)).run P w = .ok () w) ∧
  (binOp .eql t (.slice A l c) (.slice none 0 0)).run P w = .ok (.bool A.isNone) w ∧ (binOp .neq t (.slice A l c) (.slice none 0 0)).run P w = .ok (.bool !A.isNone) w:=by
 have he:(Op.equal t (.slice A l c) (.slice none 0 0)).run P w = .ok A.isNone w:=by
  show (Op.equalIn (9999 + 1) t _ _).run P w=_
  generalize 9999=d
  cases A <;> simp [Op.equalIn,run_underlying hu]
 refine ⟨fun op x y=>kZ (fun u v ⟨h,_⟩=>by cases h) (fun ⟨h,_⟩=>by cases h),?_,?_⟩
 ·simp only [binOp];simp [he]
 ·simp only [binOp];simp [he]
theorem zB.zm7 {P:Program} {n:Nat} {Q:Exit → St → Prop} {s:St} {E:Env} (T:zE P E) {ops:Array Oper} {i:Nat} {l:List Nat} {o:Oper} (hi:ops[i]?=some o) (hw:zC ops s.t o=some true) (hq:zk7 E s.t o.op=true)
  (h:∀ b,zB P n ops l Q ⟨kN s.t o.dst (.c (.bool b)),s.h⟩):zB P n ops (i :: l) Q s:=fun X a w hX hs=>by
 rw [wpOps_cons];unfold wpOp;rw [hi]
 simp only [qQ hs hw,if_true]
 obtain ⟨N,ρ,S⟩:=hs
 refine .inl ?_
 unfold Oper.wp
 have key:∃ b,(execOp a.eval o).run P w = .ok (.value (.bool b)) w:=by
  obtain ⟨dst,op,ty,pos,after,guard⟩:=o
  have base:∀ (t:TypeId) (x y:Operand),zls E s.t t x y=true → ∃ e A l c,P.underlying t=some (.slice e) ∧ a.eval x = .slice A l c ∧ a.eval y = .slice Option.none 0 0:=fun t x y hb=>by
   unfold zls at hb
   split at hb
   ·rename_i hy
    rw [Bool.and_eq_true] at hb
    obtain ⟨h1,h2⟩:=hb
    split at h2
    ·rename_i e hu
     unfold zgz at h1
     split at h1
     ·rename_i sz f hx
      have r1:=zz S.slots hx
      have r2:=zz S.slots hy
      generalize a.eval x=X1 at r1
      generalize a.eval y=Y1 at r2
      cases r1 with | c r1=>cases r2 with | c r2 =>
      cases r2
      cases r1 with
      | lst _ _ _ A c V hx hc hm hsz hcell hrep=>exact ⟨e,A,_,c,T.und _ _ hu,rfl,rfl⟩
     ·cases h1
    ·cases h2
   ·cases hb
  simp only [zk7] at hq
  split at hq
  ·rename_i t x y z
   obtain ⟨e,A,l,c,hu,hx,hy⟩:=base _ _ _ hq
   obtain ⟨g1,g2,g3⟩:=zbV (P:=P) (w:=w) (t:=t) (A:=A) (l:=l) (c:=c) hu
   exact ⟨_,by simp only [execOp,hx,hy,Sem.run_bind,g1,g2,Result.andThen_ok,Sem.run_pure];rfl⟩
  ·rename_i t x y z
   obtain ⟨e,A,l,c,hu,hx,hy⟩:=base _ _ _ hq
   obtain ⟨g1,g2,g3⟩:=zbV (P:=P) (w:=w) (t:=t) (A:=A) (l:=l) (c:=c) hu
   exact ⟨_,by simp only [execOp,hx,hy,Sem.run_bind,g1,g3,Result.andThen_ok,Sem.run_pure];rfl⟩
  ·cases hq
 obtain ⟨b,hr⟩:=key
 rw [hr]
 exact h b X _ w hX (Sim.put S (zn.quiet S.heap (.c (.bool b)) rfl) o.dst)
end Go.Ev
namespace Go.Ev
open Go.RowKit
variable [qo]
def zfM (E:Env) (s:St):ResultVar → Option AV
 | .tmp t=>s.t[t]?
 | .cell a t=>match s.t[a]? with
  | some (.ptr id off)=>JO E t (.ptr id off) s.h
  | _=>none
def Jg (E:Env) (s:St):List ResultVar → Option (List AV)
 | []=>some []
 | r :: rs=>match zfM E s r,Jg E s rs with
  | some v,some vs=>some (v :: vs)
  | _,_=>none
def zfU (l:List AV):AV:=match l with
 | [v]=>v
 | l=>.tup l
def zeb (E:Env) (rs:List ResultVar) (s:St):Option AV:=(Jg E s rs).map zfU
def WB (tmps:Array Value):ResultVar → Sem Value
 | .tmp t=>pure (tmps.getD t undef)
 | .cell a t=>do loadVar t (← asAddr (tmps.getD a undef))
theorem Qp {P:Program} {E:Env} (T:zE P E) {X:Ent} {s:St} {a:Act} {w:World} {N:Nat → Prop} {ρ:Nat → Pl} (S:zhS X s a w N ρ):∀ (rs:List ResultVar) (vs:List AV),Jg E s rs=some vs →
  ∃ xs:List Value,(rs.mapM (WB a.tmps)).run P w = .ok xs w ∧ vs.length=xs.length ∧ (∀ (i:Nat) (h1:i < vs.length) (h2:i < xs.length),zo w N ρ vs[i] xs[i]) ∧ AV.sc.scAll (born s.h) vs=true
 | [],vs,h=>by
  simp [Jg] at h;subst h
  exact ⟨[],by simp,rfl,fun i h1=>absurd h1 (by simp),rfl⟩
 | r :: rs,vs,h=>by
  unfold Jg at h
  split at h
  ·rename_i v vs' hv hvs
   cases h
   obtain ⟨xs,h1,h2,h3,h4⟩:=Qp T S rs vs' hvs
   have one:∃ x,(WB a.tmps r).run P w = .ok x w ∧ zo w N ρ v x ∧ v.sc (born s.h)=true:=by
    unfold zfM at hv
    split at hv
    ·rename_i t
     obtain ⟨x,hx,hr⟩:=S.slots.rep t v hv
     exact ⟨x,by simp [WB,hx],hr,ze.1 S.sc _ (List.mem_of_getElem? hv)⟩
    ·rename_i a' t
     split at hv
     ·rename_i id off ha
      obtain ⟨x,hx,hr⟩:=S.slots.rep a' _ ha
      obtain ⟨y,hy,hry,hs⟩:=K6 T S.heap hr hv
      cases hr
      refine ⟨y,?_,hry,hs⟩
      simp [Instr.loadAt,Instr.sureAddr] at hy
      simp [WB,hx,asAddr,hy]
     ·cases hv
   obtain ⟨x,g1,g2,g3⟩:=one
   refine ⟨x :: xs,?_,by simp [h2],fun i a b=>?_,by simp only [AV.sc.scAll,Bool.and_eq_true];exact ⟨g3,h4⟩⟩
   ·simp [List.mapM_cons,g1,h1]
   ·cases i with
    | zero=>exact g2
    | succ i=>exact h3 i (by simpa using a) (by simpa using b)
  ·cases h
theorem Ja {P:Program} {E:Env} (T:zE P E) {X:Ent} {s:St} {a:Act} {w:World} {N:Nat → Prop} {ρ:Nat → Pl} (S:zhS X s a w N ρ) {fn:Func} {v:AV} (h:zeb E fn.results.toList s=some v) :
  ∃ x,(results fn a.tmps).run P w = .ok x w ∧ zo w N ρ v x ∧ v.sc (born s.h)=true:=by
 obtain ⟨vs,hvs,rfl⟩:=Option.map_eq_some_iff.1 h
 obtain ⟨xs,h1,h2,h3,h4⟩:=Qp T S _ _ hvs
 refine ⟨if h:xs.toArray.size=1 then xs.toArray[0] else .tuple xs.toArray,?_,?_⟩
 ·have e1:results fn a.tmps=(do let vs ← fn.results.mapM (WB a.tmps);pure (if h:vs.size=1 then vs[0] else .tuple vs)):=by
   unfold results
   congr 1
  rw [e1,Array.mapM_eq_mapM_toList]
  simp [h1]
 ·unfold zfU
  split
  ·rename_i v
   match xs,h2 with
   | [x],_=>exact ⟨h3 0 (by simp) (by simp),by simp only [AV.sc.scAll,Bool.and_true] at h4;exact h4⟩
  ·rename_i hn
   have:¬ xs.toArray.size=1:=by
    intro hl
    have h5:vs.length=1:=by rw [h2];simpa using hl
    match vs,h5 with
    | [v],_=>exact hn v rfl
   rw [dif_neg this]
   exact ⟨.tup vs xs h2 h3,h4⟩
theorem Good.of_run {P:Program} {E:Env} (T:zE P E) {f:FuncId} {fn:Func} {c:Code} {args:List AV} {h h':List zf} {r:AV} (hf:P.funcs[f]?=some fn) (hb:fn.body=some c) (hn:(fn.name == "runtime.NumGoroutine")=false)
  (hrun:Run P h.length c (fun e s=>(e = .normal ∨ e = .ret) ∧ zeb E fn.results.toList s=some r ∧ s.h=h') ⟨args ++ List.replicate (fn.ntmps - args.length) .und,h⟩):Good P f args h r h':=by
 intro w N ρ vs H hsc hl hrep
 refine .inl ⟨by (have hn':¬ fn.name = "runtime.NumGoroutine":=by simpa using hn);simp [callFunc,go_sem,hf,hn',hb],?_⟩
 refine calls_of_wp hf hb ?_
 let X:Ent:=⟨N,h,ρ,w⟩
 have hs:Sim X ⟨args ++ List.replicate (fn.ntmps - args.length) .und,h⟩ { tmps:=vs.toArray ++ Array.replicate (fn.ntmps - vs.toArray.size) undef,defers:=[] } w:=by
  refine ⟨N,ρ,H,⟨by simp [hl],fun i v hv=>?_,H.glob⟩,?_,Kept.refl _ _ _ _,rfl⟩
  ·simp only at hv ⊢
   by_cases hlt:i < args.length
   ·rw [List.getElem?_append_left hlt,List.getElem?_eq_getElem hlt] at hv
    cases hv
    exact ⟨vs[i],by rw [Array.getElem?_append_left (by simp;omega)];simp [show i < vs.length by omega],hrep i hlt (by omega)⟩
   ·rw [List.getElem?_append_right (by omega)] at hv
    have h1:=List.getElem?_eq_some_iff.1 hv
    obtain ⟨h2,h3⟩:=h1
    simp only [List.getElem_replicate] at h3
    subst h3
    simp only [List.length_replicate] at h2
    refine ⟨undef,?_,.und⟩
    rw [Array.getElem?_append_right (by simp;omega)]
    simp only [List.size_toArray,Array.getElem?_replicate]
    rw [if_pos (by omega)]
  ·refine ze.2 fun x hx=>?_
   rcases List.mem_append.1 hx with h1 | h1
   ·exact ze.1 hsc x h1
   ·rw [(List.mem_replicate.1 h1).2];rfl
 refine wp_mono (hrun X _ _ (Nat.le_refl _) hs) ?_
 rintro e a' w' ⟨s',⟨N',ρ',S⟩,he,hr,rfl⟩
 obtain ⟨x,hx,hrx,hsx⟩:=Ja T S hr
 have out:a'.defers=[] ∧ ∃ v,(results fn a'.tmps).run P w' = .ok v w' ∧ ∃ v_1,Ending.returned v = .returned v_1 ∧ zn N h ρ w r s'.h v_1 w':=⟨S.defers,x,hx,x,rfl,⟨⟨N',ρ',S.heap,hrx,S.kept,hsx⟩⟩⟩
 rcases he with rfl | rfl
 ·exact out
 ·exact out
theorem Run.turn {P:Program} {n:Nat} {c:Code} {Q Q':Exit → St → Prop} {s:St} (h:Run P n c Q s) (ht:∀ e s1 X a w,X.h.length ≤ n → Q e s1 → Sim X s1 a w → ∃ s2,Sim X s2 a w ∧ Q' e s2):Run P n c Q' s:=fun X a w hX hs =>
 wp_mono (h X a w hX hs) fun e a' w' ⟨s1,h1,h2⟩=>ht e s1 X a' w' hX h2 h1
theorem Run.from {P:Program} {n:Nat} {c:Code} {Q:Exit → St → Prop} {s s':St} (ht:∀ X a w,X.h.length ≤ n → Sim X s a w → Sim X s' a w) (h:Run P n c Q s'):Run P n c Q s:=fun X a w hX hs=>h X a w hX (ht X a w hX hs)
def ZB (q:Nat → Bool) (v:AV):AV:=if v.sc q then v else .dead
def j7 (q:Nat → Bool):zf → zf
 | .box cs=>.box (cs.map (ZB q))
 | .mp es c=>.mp (JD (ZB q) es) c
 | .vec sz e xs=>.vec sz e (Jo (ZB q) xs)
 | k=>k
def gc (k m:Nat) (s:St):St:=
 ⟨(s.t.take k).map (ZB (born (s.h.take m))) ++ List.replicate (s.t.length - k) .dead,(s.h.take m).map (j7 (born (s.h.take m)))⟩
theorem Zl {w:World} {N:Nat → Prop} {ρ:Nat → Pl} {v:AV} {x:Value} (q:Nat → Bool) (h:zo w N ρ v x):zo w N ρ (ZB q v) x:=by
 unfold ZB;split
 ·exact h
 ·exact .dead x
theorem QM (q:Nat → Bool) (v:AV):(ZB q v).sc q=true:=by
 unfold ZB;split
 ·assumption
 ·rfl
theorem ZD (h:List zf) (q:Nat → Bool) (i:Nat):born (h.map (j7 q)) i=born h i:=by
 unfold born;rw [List.getElem?_map]
 cases h[i]? with
 | none=>rfl
 | some k=>cases k <;> rfl
theorem zfs {h:List zf} {m i:Nat} (hb:born h i=true) (hi:i < m):born (h.take m) i=true:=by
 unfold born at *;rw [List.getElem?_take_of_lt hi];exact hb
theorem JG {h:List zf} {i:Nat} (hb:born h i=true):i < h.length:=by
 unfold born at hb;split at hb
 ·cases hb
 ·rename_i hk;exact (List.getElem?_eq_some_iff.1 hk).1
 ·cases hb
theorem Sim.gc {X:Ent} {s:St} {a:Act} {w:World} (k m:Nat) (hm:X.h.length ≤ m) (hs:Sim X s a w):Sim X (gc k m s) a w:=by
 obtain ⟨N,ρ,S⟩:=hs
 let q:=born (s.h.take m)
 have hget:∀ i k',((s.h.take m).map (j7 q))[i]?=some k' → ∃ k0,s.h[i]?=some k0 ∧ k'=j7 q k0:=fun i k' hk=>by
  rw [List.getElem?_map] at hk
  obtain ⟨k0,h0,rfl⟩:=Option.map_eq_some_iff.1 hk
  rw [List.getElem?_take] at h0
  split at h0
  ·exact ⟨k0,h0,rfl⟩
  ·cases h0
 have hown:∀ i,owns ((s.h.take m).map (j7 q)) ρ i → owns s.h ρ i:=fun i ⟨⟨k',hk,h1,h2⟩,hp⟩=>by
  obtain ⟨k0,h0,rfl⟩:=hget i k' hk
  exact ⟨⟨k0,h0,fun e=>h1 (by rw [e];rfl),fun e=>h2 (by rw [e];rfl)⟩,hp⟩
 refine ⟨N,ρ,⟨S.heap.lt,fun i j hi hj=>S.heap.inj i j (hown i hi) (hown j hj),fun i hi=>S.heap.apart i (hown i hi),fun i k' hk=>?_,fun i cs hk=>?_,S.heap.glob⟩,⟨?_,fun i v hv=>?_,S.heap.glob⟩,?_,?_,S.defers⟩
 ·obtain ⟨k0,h0,rfl⟩:=hget i k' hk
  have:=S.heap.own i k0 h0
  cases k0 with
  | box cs =>
   obtain ⟨h1,h2,vs,t,fr,hh,hf,hl,hc⟩:=this
   refine ⟨h1,h2,vs,t,fr,hh,hf,by simp [hl],fun j hj=>?_⟩
   simp only [List.length_map] at hj
   obtain ⟨x,hx,hr⟩:=hc j hj
   exact ⟨x,hx,by rw [List.getElem_map];exact Zl q hr⟩
  | mp es c=>exact this.JD rfl (fun b hb=>⟨hb,rfl⟩) fun v _ x hx=>Zl q hx
  | vec sz e xs=>exact this.Jo rfl fun v _ x hx=>Zl q hx
  | rows=>exact this
  | gone=>exact this
  | zy=>exact this
 ·obtain ⟨k0,h0,h1⟩:=hget i _ hk
  cases k0 with
  | box cs0 =>
   cases h1
   refine ze.2 fun x hx=>?_
   obtain ⟨y,_,rfl⟩:=List.mem_map.1 hx
   have:=QM q y
   refine AV.zQ (fun i hi=>?_) _ this
   show born (List.map _ _) i=true
   rw [ZD];exact hi
  | mp es c =>
   cases h1
   refine yL fun y _=>AV.zQ (fun i hi=>?_) _ (QM q y)
   show born (List.map _ _) i=true
   rw [ZD];exact hi
  | vec sz e xs =>
   cases h1
   refine ZC fun y _=>AV.zQ (fun i hi=>?_) _ (QM q y)
   show born (List.map _ _) i=true
   rw [ZD];exact hi
  | _=>cases h1;rfl
 ·have:=S.slots.len
  simp only [Ev.gc,List.length_append,List.length_map,List.length_take,List.length_replicate,← this];omega
 ·simp only [Ev.gc] at hv
  by_cases hlt:i < ((s.t.take k).map (ZB (born (s.h.take m)))).length
  ·rw [List.getElem?_append_left hlt,List.getElem?_map] at hv
   obtain ⟨v0,h0,rfl⟩:=Option.map_eq_some_iff.1 hv
   rw [List.getElem?_take] at h0
   split at h0
   ·obtain ⟨x,hx,hr⟩:=S.slots.rep i v0 h0
    exact ⟨x,hx,Zl q hr⟩
   ·cases h0
  ·rw [List.getElem?_append_right (by omega)] at hv
   obtain ⟨h2,h3⟩:=List.getElem?_eq_some_iff.1 hv
   simp only [List.getElem_replicate] at h3
   subst h3
   simp only [List.length_replicate,List.length_map,List.length_take] at h2 hlt
   have hsz:i < a.tmps.size:=by rw [← S.slots.len];omega
   exact ⟨a.tmps[i],Array.getElem?_eq_getElem hsz,.dead _⟩
 ·refine ze.2 fun x hx=>?_
  simp only [Ev.gc] at hx
  rcases List.mem_append.1 hx with h1 | h1
  ·obtain ⟨y,_,rfl⟩:=List.mem_map.1 h1
   refine AV.zQ (fun i hi=>?_) _ (QM q y)
   show born (List.map _ _) i=true
   rw [ZD];exact hi
  ·rw [(List.mem_replicate.1 h1).2];rfl
 ·have K:=S.kept
  refine ⟨K.os,K.tape,K.output,K.size,fun i hi=>⟨?_,(K.rho i hi).2⟩,K.stay,K.from_,K.rest,fun i hi=>K.new i (hown i hi)⟩
  show born (List.map _ _) i=true
  rw [ZD]
  exact zfs (K.rho i hi).1 (by have:=JG hi;omega)
theorem Run.gc {P:Program} {n:Nat} {c:Code} {Q:Exit → St → Prop} {s:St} (k m:Nat) (hm:n ≤ m) (h:Run P n c Q (gc k m s)):Run P n c Q s:=
 Run.from (fun X a w hX hs=>hs.gc k m (Nat.le_trans hX hm)) h
theorem Run.zmc {P:Program} {n:Nat} {c:Code} {Q:Exit → St → Prop} {s:St} (k m:Nat) (hm:n ≤ m) (I:Nat → St → Prop) (j:Nat) (h0:I j (Ev.gc k m s)) (round:∀ j s,I j s → Run P n c (thenS (fun s'=>∃ i,i < j ∧ I i (Ev.gc k m s')) Q) s):Run P n (.loop c) Q s:=
 Run.gc k m hm (Run.loop I j h0 fun j s1 hI=>(round j s1 hI).turn fun e s2 _ _ _ hX hq hs=>by
  cases e with
  | normal=>exact ⟨_,hs.gc k m (Nat.le_trans hX hm),hq⟩
  | _=>exact ⟨s2,hs,hq⟩)
def kV (id:Nat) (sz:Nat) (xs:List (List CV)):AV → AV
 | .sl i off len=>if i=id then (if off + len ≤ xs.length then .c (.lst sz false ((xs.drop off).take len)) else .dead) else .sl i off len
 | .er i j o=>if i=id then .dead else .er i j o
 | .es i j o n=>if i=id then .dead else .es i j o n
 | .ifc t v=>.ifc t (kV id sz xs v)
 | .agg vs=>.agg (frzAll id sz xs vs)
 | .tup vs=>.tup (frzAll id sz xs vs)
 | .fn f vs=>.fn f (frzAll id sz xs vs)
 | v=>v
where
 frzAll (id:Nat) (sz:Nat) (xs:List (List CV)):List AV → List AV
  | []=>[]
  | v :: vs=>kV id sz xs v :: frzAll id sz xs vs
def zeh (id:Nat) (sz:Nat) (xs:List (List CV)):zf → zf
 | .box cs=>.box (kV.frzAll id sz xs cs)
 | .mp es c=>.mp (JD (kV id sz xs) es) c
 | .vec sz' e ys=>.vec sz' e (Jo (kV id sz xs) ys)
 | k=>k
def freeze (id:Nat) (s:St):St:=match s.h[id]? with
 | some (.rows sz _ xs)=>⟨kV.frzAll id sz xs s.t,(s.h.map (zeh id sz xs)).set id .gone⟩
 | _=>s
theorem zX (id sz:Nat) (xs:List (List CV)):∀ l:List AV,(kV.frzAll id sz xs l).length=l.length
 | []=>rfl
 | v :: l=>by simp [kV.frzAll,zX id sz xs l]
theorem qz (id sz:Nat) (xs:List (List CV)):∀ (l:List AV) (i:Nat),(kV.frzAll id sz xs l)[i]?=(l[i]?).map (kV id sz xs)
 | [],i=>by simp [kV.frzAll]
 | v :: l,0=>rfl
 | v :: l,i + 1=>by simp [kV.frzAll,qz id sz xs l i]
theorem xZ {id sz:Nat} {xs:List (List CV)} {l:List AV} {x:AV} (h:x ∈ kV.frzAll id sz xs l):∃ y,y ∈ l ∧ x=kV id sz xs y:=by
 obtain ⟨i,hi⟩:=List.getElem?_of_mem h
 rw [qz] at hi
 obtain ⟨y,hy,rfl⟩:=Option.map_eq_some_iff.1 hi
 exact ⟨y,List.mem_of_getElem? hy,rfl⟩
theorem KS (id sz:Nat) (xs:List (List CV)) (q:Nat → Bool):∀ v:AV,v.sc q=true → (kV id sz xs v).sc q=true
 | .c _,_ | .rd _,_ | .und,_ | .dead,_=>rfl
 | .ptr _ _,h | .mp _,h=>h
 | .sl i off len,h=>by
  simp only [kV];split
  ·split <;> rfl
  ·exact h
 | .er i j o,h=>by
  simp only [kV];split
  ·rfl
  ·exact h
 | .es i j o n,h=>by
  simp only [kV];split
  ·rfl
  ·exact h
 | .ifc t v,h=>KS id sz xs q v h
 | .agg vs,h | .tup vs,h | .fn _ vs,h=>all vs h
where
 all:∀ vs:List AV,AV.sc.scAll q vs=true → AV.sc.scAll q (kV.frzAll id sz xs vs)=true
  | [],_=>rfl
  | v :: vs,h=>by
   simp only [AV.sc.scAll,Bool.and_eq_true] at h
   simp only [kV.frzAll,AV.sc.scAll,Bool.and_eq_true]
   exact ⟨KS id sz xs q v h.1,all vs h.2⟩
theorem zeP {N:Nat → Prop} {h:List zf} {ρ:Nat → Pl} {w:World} (H:zw N h ρ w) {id sz:Nat} {e:TypeId} {xs:List (List CV)} (hk:h[id]?=some (.rows sz e xs)) {off len:Nat} {x:Value} (h1:zo w N ρ (.sl id off len) x) (h2:off + len ≤ xs.length) :
  zo w (fun b=>N b ∨ (owns h ρ id ∧ (ρ id).b=b)) ρ (.c (.lst sz false ((xs.drop off).take len))) x:=by
 have:=(zbY (ρ':=ρ) H (args:=[.sl id off len]) (v:=.sl id off len) (by simp) h1 (c:=.c (.lst sz false ((xs.drop off).take len))) (by simp [snap,hk,h2])).1
 refine this.mono (q:=fun _=>true) rfl (fun b hb=>⟨?_,rfl⟩) fun _ _=>rfl
 rcases hb with hb | ⟨i,o,l,hm,ho,he⟩
 ·exact .inl hb
 ·simp at hm
  obtain ⟨rfl,_,_⟩:=hm
  exact .inr ⟨ho,he⟩
theorem Vl {N:Nat → Prop} {h:List zf} {ρ:Nat → Pl} {w:World} (H:zw N h ρ w) {id sz:Nat} {e:TypeId} {xs:List (List CV)} (hk:h[id]?=some (.rows sz e xs)) {v:AV} {x:Value} (hr:zo w N ρ v x) (q:Nat → Bool) (hq:v.sc q=true) :
  zo w (fun b=>N b ∨ (owns h ρ id ∧ (ρ id).b=b)) ρ (kV id sz xs v) x:=by
 have hN:∀ b,N b → (fun b=>N b ∨ (owns h ρ id ∧ (ρ id).b=b)) b ∧ w.heap[b]?=w.heap[b]?:=fun b hb=>⟨.inl hb,rfl⟩
 have same:∀ {v:AV} {x:Value},zo w N ρ v x → v.sc (fun _=>true)=true → zo w (fun b=>N b ∨ (owns h ρ id ∧ (ρ id).b=b)) ρ v x:=fun h1 h2=>h1.mono (q:=fun _=>true) h2 hN fun _ _=>rfl
 induction hr with
 | c h=>exact .c (h.mono hN)
 | agg us vs hl h ih =>
  refine .agg _ vs (by rw [zX];exact hl) fun i a b=>?_
  have a':i < us.length:=by rw [zX] at a;exact a
  have e1:(kV.frzAll id sz xs us)[i]=kV id sz xs us[i]:=by
   have:=qz id sz xs us i
   rw [List.getElem?_eq_getElem a,List.getElem?_eq_getElem a'] at this
   simpa using this
  rw [e1]
  exact ih i a' b (qp hq a')
 | tup us vs hl h ih =>
  refine .tup _ vs (by rw [zX];exact hl) fun i a b=>?_
  have a':i < us.length:=by rw [zX] at a;exact a
  have e1:(kV.frzAll id sz xs us)[i]=kV id sz xs us[i]:=by
   have:=qz id sz xs us i
   rw [List.getElem?_eq_getElem a,List.getElem?_eq_getElem a'] at this
   simpa using this
  rw [e1]
  exact ih i a' b (qp hq a')
 | fn f us vs hl h ih =>
  refine .fn f _ vs (by rw [zX];exact hl) fun i a b=>?_
  have a':i < us.length:=by rw [zX] at a;exact a
  have e1:(kV.frzAll id sz xs us)[i]=kV id sz xs us[i]:=by
   have:=qz id sz xs us i
   rw [List.getElem?_eq_getElem a,List.getElem?_eq_getElem a'] at this
   simpa using this
  rw [e1]
  exact ih i a' b (qp hq a')
 | ptr i off=>exact .ptr i off
 | mp i=>exact .mp i
 | sn i hp =>
  simp only [kV];split
  ·rename_i e;subst e
   rw [if_pos (by omega)]
   exact zeP H hk (.sn i hp) (by omega)
  ·exact .sn i hp
 | sl i off len cap o hp ho h1 h2 hm =>
  simp only [kV];split
  ·rename_i e;subst e
   split
   ·rename_i hle;exact zeP H hk (.sl i off len cap o hp ho h1 h2 hm) hle
   ·exact .dead _
  ·exact .sl i off len cap o hp ho h1 h2 hm
 | er i j o =>
  simp only [kV];split
  ·exact .dead _
  ·exact .er i j o
 | es i j o n cap hph h1 hm =>
  simp only [kV];split
  ·exact .dead _
  ·exact .es i j o n cap hph h1 hm
 | ifc t v x h ih=>exact .ifc t _ x (ih hq)
 | rd cs b o hb hc=>exact same (.rd cs b o hb hc) rfl
 | und=>exact .und
 | dead x=>exact .dead x
end Go.Ev
namespace Go.Ev
open Go.RowKit
variable [qo]
theorem Sim.freeze {X:Ent} {s:St} {a:Act} {w:World} (id:Nat) (hs:Sim X s a w):Sim X (freeze id s) a w:=by
 unfold Ev.freeze
 split
 case h_2=>exact hs
 rename_i sz e xs hk
 obtain ⟨N,ρ,S⟩:=hs
 have H:=S.heap
 have hid:id < s.h.length:=(List.getElem?_eq_some_iff.1 hk).1
 have hN:∀ b,N b → (fun b=>N b ∨ (owns s.h ρ id ∧ (ρ id).b=b)) b ∧ w.heap[b]?=w.heap[b]?:=fun b hb=>⟨.inl hb,rfl⟩
 have hget:∀ i k',((s.h.map (zeh id sz xs)).set id .gone)[i]?=some k' → (i=id ∧ k' = .gone) ∨ (i ≠ id ∧ ∃ k0,s.h[i]?=some k0 ∧ k'=zeh id sz xs k0):=fun i k' hk'=>by
  by_cases e:i=id
  ·subst e
   rw [List.getElem?_set_self (by simpa using hid)] at hk'
   cases hk';exact .inl ⟨rfl,rfl⟩
  ·rw [List.getElem?_set_ne (Ne.symm e),List.getElem?_map] at hk'
   obtain ⟨k0,h0,rfl⟩:=Option.map_eq_some_iff.1 hk'
   exact .inr ⟨e,k0,h0,rfl⟩
 have hown:∀ i,owns ((s.h.map (zeh id sz xs)).set id .gone) ρ i → i ≠ id ∧ owns s.h ρ i:=fun i ⟨⟨k',hk',h1,h2⟩,hp⟩=>by
  rcases hget i k' hk' with ⟨_,rfl⟩ | ⟨hne,k0,h0,rfl⟩
  ·simp at h1
  ·exact ⟨hne,⟨k0,h0,fun e=>h1 (by rw [e];rfl),fun e=>h2 (by rw [e];rfl)⟩,hp⟩
 have hborn:∀ i,born s.h i=true → born ((s.h.map (zeh id sz xs)).set id .gone) i=true:=fun i hi=>by
  by_cases e:i=id
  ·subst e;simp [born,hid]
  ·unfold born at *
   rw [List.getElem?_set_ne (Ne.symm e),List.getElem?_map]
   cases h0:s.h[i]? with
   | none=>rw [h0] at hi;cases hi
   | some k=>rw [h0] at hi;cases k <;> first | rfl | cases hi
 refine ⟨fun b=>N b ∨ (owns s.h ρ id ∧ (ρ id).b=b),ρ,⟨?_,fun i j hi hj=>H.inj i j (hown i hi).2 (hown j hj).2,fun i hi hb=>?_,fun i k' hk'=>?_,fun i cs hk'=>?_,H.glob.mono hN⟩,⟨by simp [zX,S.slots.len],fun i v hv=>?_,H.glob.mono hN⟩,?_,?_,S.defers⟩
 ·rintro b (hb | ⟨ho,rfl⟩)
  ·exact H.lt b hb
  ·exact w9 H ho
 ·rcases hb with hb | ⟨ho,he⟩
  ·exact H.apart i (hown i hi).2 hb
  ·exact (hown i hi).1 (H.inj i id (hown i hi).2 ho he.symm)
 ·rcases hget i k' hk' with ⟨_,rfl⟩ | ⟨hne,k0,h0,rfl⟩
  ·trivial
  ·have:=H.own i k0 h0
   cases k0 with
   | box cs =>
    obtain ⟨h1,h2,vs,t,fr,hh,hf,hl,hc⟩:=this
    refine ⟨h1,h2,vs,t,fr,hh,hf,by simp [zX,hl],fun j hj=>?_⟩
    have hj':j < cs.length:=by rw [zX] at hj;exact hj
    obtain ⟨x,hx,hr⟩:=hc j hj'
    refine ⟨x,hx,?_⟩
    have e1:(kV.frzAll id sz xs cs)[j]=kV id sz xs cs[j]:=by
     have:=qz id sz xs cs j
     rw [List.getElem?_eq_getElem hj,List.getElem?_eq_getElem hj'] at this
     simpa using this
    rw [e1]
    exact Vl H hk hr _ (qp (H.scope i _ h0) hj')
   | rows sz' e' ys =>
    exact this.mono (q:=born s.h) rfl (fun _ _ _=>rfl) hN (fun _ _=>rfl)
   | mp es c=>exact this.JD rfl hN fun v hv x hx=>Vl H hk hx _ (ze.1 (H.scope i _ h0) v hv)
   | vec sz' e' ys=>exact this.Jo rfl fun v hv x hx=>Vl H hk hx _ (ze.1 (H.scope i _ h0) v hv)
   | gone=>trivial
   | zy=>trivial
 ·rcases hget i _ hk' with ⟨_,rfl⟩ | ⟨hne,k0,h0,h1⟩
  ·rfl
  ·cases k0 with
   | box cs0 =>
    cases h1
    refine ze.2 fun x hx=>?_
    obtain ⟨y,hy,rfl⟩:=xZ hx
    exact KS id sz xs _ y (AV.zQ hborn y (ze.1 (H.scope i _ h0) y hy))
   | mp es c =>
    cases h1
    exact yL fun y hy=>KS id sz xs _ y (AV.zQ hborn y (ze.1 (H.scope i _ h0) y hy))
   | vec sz' e' ys =>
    cases h1
    exact ZC fun y hy=>KS id sz xs _ y (AV.zQ hborn y (ze.1 (H.scope i _ h0) y hy))
   | _=>cases h1;rfl
 ·simp only at hv
  rw [qz] at hv
  obtain ⟨v0,h0,rfl⟩:=Option.map_eq_some_iff.1 hv
  obtain ⟨x,hx,hr⟩:=S.slots.rep i v0 h0
  exact ⟨x,hx,Vl H hk hr _ (ze.1 S.sc _ (List.mem_of_getElem? h0))⟩
 ·refine ze.2 fun x hx=>?_
  obtain ⟨y,hy,rfl⟩:=xZ hx
  exact KS id sz xs _ y (AV.zQ hborn y (ze.1 S.sc y hy))
 ·have K:=S.kept
  refine ⟨K.os,K.tape,K.output,K.size,fun i hi=>⟨hborn i (K.rho i hi).1,(K.rho i hi).2⟩,fun b hb=>⟨.inl (K.stay b hb).1,(K.stay b hb).2⟩,?_,K.rest,fun i hi=>K.new i (hown i hi).2⟩
  rintro b (hb | ⟨ho,rfl⟩)
  ·exact K.from_ b hb
  ·rcases K.new id ho with h1 | ⟨j,hj,h1⟩
   ·exact .inr (.inl h1)
   ·exact .inr (.inr ⟨j,hj,h1⟩)
theorem Run.freeze {P:Program} {n:Nat} {c:Code} {Q:Exit → St → Prop} {s:St} (id:Nat) (h:Run P n c Q (freeze id s)):Run P n c Q s:=
 Run.from (fun _ _ _ _ hs=>hs.freeze id) h
theorem Run.frozen {P:Program} {n:Nat} {c:Code} {Q:Exit → St → Prop} {s:St} (id:Nat) (h:Run P n c (fun e s=>Q e (Ev.freeze id s)) s):Run P n c Q s:=
 h.turn fun _ s1 _ _ _ _ hq hs=>⟨_,hs.freeze id,hq⟩
theorem zB.freeze {P:Program} {n:Nat} {ops:Array Oper} {l:List Nat} {Q:Exit → St → Prop} {s:St} (id:Nat) (h:zB P n ops l Q (freeze id s)):zB P n ops l Q s:=
 fun X a w hX hs=>h X a w hX (hs.freeze id)
end Go.Ev
namespace Go.Ev
open Go.RowKit
variable [qo]
def zk9:AV → Option Nat
 | .sl id _ _=>some id
 | _=>none
def zS:AV → List Nat
 | .sl id _ _ | .ptr id _ | .er id _ _ | .es id _ _ _ | .mp id=>[id]
 | .fn _ caps=>caps.filterMap zk9
 | .agg vs=>vs.filterMap zk9
 | _=>[]
def zj6:AV → List Nat
 | .sl id _ _=>[id]
 | .agg vs=>vs.filterMap zk9
 | _=>[]
def zbU:Op → Bool
 | .buildSlice ..=>true
 | .store ..=>true
 | _=>false
def qh:List Nat → List AV → List zf → List AV × List (Nat × zf)
 | [],t,_=>(t,[])
 | id :: ids,t,h=>match h[id]? with
  | some (.rows sz _ xs)=>let r:=qh ids (kV.frzAll id sz xs t) (qW h id .gone);(r.1,(id,.gone) :: r.2)
  | _=>qh ids t h
def wQ (t:List AV) (x:Operand):List Nat:=match opd t x with
 | some v=>zj6 v
 | none=>[]
def ZM (E:Env) (op:Op) (ty:TypeId) (t:List AV) (h:List zf) (nw:Nat):Option (AV × List (Nat × zf)):=
 match kE E op ty t h nw with
 | some r=>some r
 | none=>if zbU op then
   let r:=qh (op.operands.toList.flatMap (wQ t)) t h
   match kE E op ty r.1 (app h r.2) nw with
   | some (v,U)=>some (v,r.2 ++ U)
   | none=>none
  else none
theorem zw.shut {N:Nat → Prop} {h:List zf} {ρ:Nat → Pl} {w:World} (H:zw N h ρ w) {id sz:Nat} {e:TypeId} {xs:List (List CV)} (hk:h[id]?=some (.rows sz e xs)) :
  zw (fun b=>N b ∨ (owns h ρ id ∧ (ρ id).b=b)) (h.set id .gone) ρ w ∧ Kept N h ρ w (fun b=>N b ∨ (owns h ρ id ∧ (ρ id).b=b)) (h.set id .gone) ρ w ∧ ∀ i,born h i=true → born (h.set id .gone) i=true:=by
 have hid:id < h.length:=(List.getElem?_eq_some_iff.1 hk).1
 have hN:∀ b,N b → (fun b=>N b ∨ (owns h ρ id ∧ (ρ id).b=b)) b ∧ w.heap[b]?=w.heap[b]?:=fun b hb=>⟨.inl hb,rfl⟩
 have hget:∀ (i:Nat) (k':zf),(h.set id .gone)[i]?=some k' → (i=id ∧ k' = .gone) ∨ (i ≠ id ∧ h[i]?=some k'):=fun i k' hk'=>by
  by_cases e:i=id
  ·subst e
   rw [List.getElem?_set_self hid] at hk'
   cases hk';exact .inl ⟨rfl,rfl⟩
  ·rw [List.getElem?_set_ne (Ne.symm e)] at hk'
   exact .inr ⟨e,hk'⟩
 have hown:∀ i,owns (h.set id .gone) ρ i → i ≠ id ∧ owns h ρ i:=fun i ⟨⟨k',hk',h1,h2⟩,hp⟩=>by
  rcases hget i k' hk' with ⟨_,rfl⟩ | ⟨hne,h0⟩
  ·simp at h1
  ·exact ⟨hne,⟨k',h0,h1,h2⟩,hp⟩
 have hborn:∀ i,born h i=true → born (h.set id .gone) i=true:=fun i hi=>by
  by_cases e:i=id
  ·subst e;simp [born,hid]
  ·unfold born at *
   rw [List.getElem?_set_ne (Ne.symm e)];exact hi
 refine ⟨⟨?_,fun i j hi hj=>H.inj i j (hown i hi).2 (hown j hj).2,fun i hi hb=>?_,fun i k' hk'=>?_,fun i cs hk'=>?_,H.glob.mono hN⟩,⟨rfl,rfl,rfl,Nat.le_refl _,fun i hi=>⟨hborn i hi,rfl⟩,hN,?_,fun _ _ _=>rfl,fun i hi=>.inr ⟨i,(hown i hi).2,rfl⟩⟩,hborn⟩
 ·rintro b (hb | ⟨ho,rfl⟩)
  ·exact H.lt b hb
  ·exact w9 H ho
 ·rcases hb with hb | ⟨ho,he⟩
  ·exact H.apart i (hown i hi).2 hb
  ·exact (hown i hi).1 (H.inj i id (hown i hi).2 ho he.symm)
 ·rcases hget i k' hk' with ⟨_,rfl⟩ | ⟨hne,h0⟩
  ·trivial
  ·exact (H.own i k' h0).mono (q:=born h) (H.scope i _ h0) (fun _ _ _=>rfl) hN (fun _ _=>rfl)
 ·rcases hget i _ hk' with ⟨_,rfl⟩ | ⟨hne,h0⟩
  ·rfl
  ·exact AV.zQ.all hborn _ (H.scope i _ h0)
 ·rintro b (hb | ⟨ho,rfl⟩)
  ·exact .inl hb
  ·exact .inr (.inr ⟨id,ho,rfl⟩)
theorem wK {ρ:Nat → Pl} {w:World} {tmps:Array Value}:∀ (ids:List Nat) {N:Nat → Prop} {t:List AV} {h:List zf},zw N h ρ w → x7 w N ρ t tmps → AV.sc.scAll (born h) t=true →
  ∃ N',zw N' (app h (qh ids t h).2) ρ w ∧ x7 w N' ρ (qh ids t h).1 tmps ∧ AV.sc.scAll (born (app h (qh ids t h).2)) (qh ids t h).1=true ∧ Kept N h ρ w N' (app h (qh ids t h).2) ρ w ∧ (app h (qh ids t h).2).length=h.length ∧ ∀ i:Nat,h[i]?=some zf.zy → (app h (qh ids t h).2)[i]?=some zf.zy
 | [],N,t,h,H,S,hs=>⟨N,H,S,hs,Kept.refl _ _ _ _,rfl,fun _ h=>h⟩
 | id :: ids,N,t,h,H,S,hs=>by
  unfold qh
  split
  ·rename_i sz e xs hk
   have hid:id < h.length:=(List.getElem?_eq_some_iff.1 hk).1
   obtain ⟨H1,K1,hb⟩:=H.shut hk
   have S1:x7 w (fun b=>N b ∨ (owns h ρ id ∧ (ρ id).b=b)) ρ (kV.frzAll id sz xs t) tmps:=⟨by rw [zX];exact S.len,fun i v hv=>by
    rw [qz] at hv
    obtain ⟨v0,h0,rfl⟩:=Option.map_eq_some_iff.1 hv
    obtain ⟨x,hx,hr⟩:=S.rep i v0 h0
    exact ⟨x,hx,Vl H hk hr _ (ze.1 hs _ (List.mem_of_getElem? h0))⟩,H1.glob⟩
   have hs1:AV.sc.scAll (born (h.set id .gone)) (kV.frzAll id sz xs t)=true:=ze.2 fun x hx=>by
    obtain ⟨y,hy,rfl⟩:=xZ hx
    exact KS id sz xs _ y (AV.zQ hb y (ze.1 hs y hy))
   obtain ⟨N',H2,S2,hs2,K2,hl,hu⟩:=wK ids H1 S1 hs1
   simp only [app,qW,if_pos hid]
   refine ⟨N',H2,S2,hs2,K1.trans K2,by rw [hl];simp,fun i hi=>hu i ?_⟩
   have:i ≠ id:=fun e=>by subst e;rw [hk] at hi;cases hi
   rw [List.getElem?_set_ne (Ne.symm this)];exact hi
  ·exact wK ids H S hs
theorem Jj:∀ (U V:List (Nat × zf)) (h:List zf),app h (U ++ V)=app (app h U) V
 | [],_,_=>rfl
 | (i,k) :: U,V,h=>by simp only [List.cons_append,app];exact Jj U V _
theorem za0 {P:Program} {E:Env} (T:zE P E) {N:Nat → Prop} {h:List zf} {ρ:Nat → Pl} {w:World} (H:zw N h ρ w) {t:List AV} {a:Act} (S:x7 w N ρ t a.tmps) (ht:AV.sc.scAll (born h) t=true) {o:Oper} {nw:Nat} {v:AV} {U:List (Nat × zf)} (hf:kA h nw)
  (hv:ZM E o.op o.type t h nw=some (v,U)):Yld P o a N h ρ w v (app h U):=by
 unfold ZM at hv
 split at hv
 ·rename_i r hr
  cases hv
  exact ZF T H S ht hf hr
 ·split at hv
  ·simp only at hv
   split at hv
   ·rename_i v1 U1 hr
    cases hv
    obtain ⟨N',H2,S2,hs2,K2,hl,hu⟩:=wK (tmps:=a.tmps) (o.op.operands.toList.flatMap (wQ t)) H S ht
    obtain ⟨nx,x,w',hrun,hnx,⟨N3,ρ3,H3,hr3,K3,hs3⟩⟩:=ZF T H2 S2 hs2 (by
     rcases hf with hf | hf
     ·exact .inl (by rw [hl];exact hf)
     ·exact .inr (hu _ hf)) hr
    rw [Jj]
    exact ⟨nx,x,w',hrun,hnx,⟨N3,ρ3,H3,hr3,K2.trans K3,hs3⟩⟩
   ·cases hv
  ·cases hv
end Go.Ev
namespace Go.Ev
open Go.RowKit
variable [qo]
structure zjH (t t':List AV) (h h':List zf) (x:Operand):Prop where
 val:opd t' x=opd t x
 ids:∀ v,opd t x=some v → ∀ id,id ∈ zS v → h'[id]?=h[id]?
section
variable {t t':List AV} {h h':List zf}
theorem zjH.one {x:Operand} {v:AV} (hs:zjH t t' h h' x) (hv:opd t x=some v) {id:Nat} (hi:id ∈ zS v):h'[id]?=h[id]?:=hs.ids v hv id hi
theorem ZV:∀ (ps:List (Nat × Operand)),(∀ x,x ∈ ps.map (·.2) → zjH t t' h h' x) → parts t' ps=parts t ps
 | [],_=>rfl
 | (i,x) :: ps,hs=>by
  unfold parts
  rw [(hs x (by simp)).val,ZV ps fun y hy=>hs y (by simp at hy ⊢;exact .inr hy)]
theorem Z0:∀ (ps:List Operand),(∀ x,x ∈ ps → zjH t t' h h' x) → jj t' ps=jj t ps
 | [],_=>rfl
 | x :: ps,hs=>by
  unfold jj
  rw [(hs x (by simp)).val,Z0 ps fun y hy=>hs y (by simp [hy])]
theorem Xr:∀ (ps:List Operand) (l:List AV),(∀ x,x ∈ ps → zjH t t' h h' x) → jj t ps=some l → ∀ v,v ∈ l → ∀ id,id ∈ zS v → h'[id]?=h[id]?
 | [],l,_,hl,v,hv,_,_=>by simp [jj] at hl;subst hl;cases hv
 | x :: ps,l,hs,hl,v,hv,id,hid=>by
  unfold jj at hl
  split at hl
  ·rename_i u us hu hus
   cases hl
   rcases List.mem_cons.1 hv with e | e
   ·subst e;exact (hs x (by simp)).ids _ hu id hid
   ·exact Xr ps us (fun y hy=>hs y (by simp [hy])) hus v e id hid
  ·cases hl
theorem zdK (E:Env) (ty:TypeId) (a:AV) (hi:∀ id,id ∈ zS a → h'[id]?=h[id]?):JO E ty a h'=JO E ty a h:=by
 cases a <;> simp only [JO] <;> rw [hi _ (by simp [zS])]
theorem zaH (E:Env) (ty:TypeId) (a v:AV) (hi:∀ id,id ∈ zS a → h'[id]?=h[id]?):Qg E ty a v h'=Qg E ty a v h:=by
 unfold Qg
 cases a <;> simp only [] <;> rw [hi _ (by simp [zS])]
theorem Vi (E:Env) (ty:TypeId) (x i:AV) (hi:∀ id,id ∈ zS x → h'[id]?=h[id]?):kU E ty x i h'=kU E ty x i h:=by
 unfold kU
 split <;> first | rfl | (rw [hi _ (by simp [zS])])
theorem YH (E:Env) (ty:TypeId) (x:AV) (lo hi':Option AV) (hi:∀ id,id ∈ zS x → h'[id]?=h[id]?):Qe E ty x lo hi' h'=Qe E ty x lo hi' h:=by
 unfold Qe
 split <;> first | rfl | (rw [hi _ (by simp [zS])])
theorem zaE (E:Env) (ty:TypeId) (x:AV) (lo hi':Option AV) (nw:Nat) (hi:∀ id,id ∈ zS x → h'[id]?=h[id]?):sliceB E ty x lo hi' h' nw=sliceB E ty x lo hi' h nw:=by
 unfold sliceB
 split
 ·rename_i id off
  have e0:=hi id (by simp [zS])
  unfold xD
  split
  ·rename_i hq;cases hq;simp only [e0]
  ·rfl
 ·rw [YH E ty x lo hi' hi]
theorem Xb (E:Env) (ty:TypeId) (x:AV) (hi:∀ id,id ∈ zS x → h'[id]?=h[id]?):wT E ty h' x=wT E ty h x:=by
 unfold wT
 split <;> first | rfl | (rw [hi _ (by simp [zS])])
theorem Jp (x:AV) (hi:∀ id,id ∈ zS x → h'[id]?=h[id]?):rowOf h' x=rowOf h x:=by
 unfold rowOf
 split <;> first | rfl | (rw [hi _ (by simp [zS])])
theorem QT (E:Env) (ty:TypeId) (sz:Nat) (x:AV) (hi:∀ id,id ∈ zS x → h'[id]?=h[id]?):wY E ty h' sz x=wY E ty h sz x:=by
 have e:=Jp x hi
 unfold wY
 split <;> first | rfl | exact e
theorem JI (E:Env) (e u:TypeId) (s x:AV) (nw:Nat) (hs:∀ id,id ∈ zS s → h'[id]?=h[id]?) (hx:∀ id,id ∈ zS x → h'[id]?=h[id]?):wG E e u s x h' nw=wG E e u s x h nw:=by
 unfold wG
 simp only [Xb E u x hx]
 cases s with
 | sl id off len=>simp only [hs id (by simp [zS])]
 | c v=>cases v <;> rfl
 | _=>rfl
theorem X5 (E:Env) (ts:List TypeId) (us:List AV) (nw:Nat) (hi:∀ v,v ∈ us → ∀ id,id ∈ zS v → h'[id]?=h[id]?):yH E ts us h' nw=yH E ts us h nw:=by
 unfold yH
 split
 ·rename_i t u s x
  have e1:=fun sz=>QT E u sz x (hi x (by simp))
  simp only [e1,fun e=>JI (h:=h) (h':=h') E e u s x nw (hi s (by simp)) (hi x (by simp))]
  cases s with
  | sl id off len=>simp only [hi (.sl id off len) (by simp) id (by simp [zS])]
  | c v =>
   cases v with
   | lst sz x ys=>cases x <;> rfl
   | _=>rfl
  | _=>rfl
 ·rfl
theorem JF (E:Env) (ts:List TypeId) (us:List AV) (nw:Nat) (hi:∀ v,v ∈ us → ∀ id,id ∈ zS v → h'[id]?=h[id]?):wI E ts us h' nw=wI E ts us h nw:=by
 unfold wI
 split
 ·rw [X5 E _ _ nw hi]
 ·rfl
theorem zcc (E:Env) (t u:TypeId) (d x:AV) (hd:∀ id,id ∈ zS d → h'[id]?=h[id]?) (hx:∀ id,id ∈ zS x → h'[id]?=h[id]?):WZ E t u d x h'=WZ E t u d x h:=by
 have e1:=fun sz=>QT (h:=h) (h':=h') E u sz x hx
 unfold WZ
 split
 ·rename_i id off len hq
  rw [hd id (by simp [zS])]
  simp only [e1]
 ·rfl
theorem zdn (E:Env) (src dst:TypeId) (x:AV) (nw:Nat) (hi:∀ id,id ∈ zS x → h'[id]?=h[id]?):Xy E src dst x h' nw=Xy E src dst x h nw:=by
 have e:=Jp x hi
 unfold Xy
 split <;> first | rfl | simp only [e]
theorem YK (x:AV) (hi:∀ id,id ∈ zS x → h'[id]?=h[id]?):Kf h' x=Kf h x:=by
 unfold Kf
 split <;> first | rfl | (rw [hi _ (by simp [zS])])
theorem WU (E:Env) (ty:TypeId) (m k:AV) (ok:Bool) (hi:∀ id,id ∈ zS m → h'[id]?=h[id]?):xq E ty m k ok h'=xq E ty m k ok h:=by
 unfold xq
 rw [YK m hi]
theorem XL (E:Env) (ty:TypeId) (m k v:AV) (hi:∀ id,id ∈ zS m → h'[id]?=h[id]?):zhA E ty m k v h'=zhA E ty m k v h:=by
 unfold zhA
 split <;> first | rfl | (rw [hi _ (by simp [zS])])
theorem zd1 (E:Env) (ty:TypeId) (m:AV) (hi:∀ id,id ∈ zS m → h'[id]?=h[id]?):XG E ty m h'=XG E ty m h:=by
 unfold XG
 split <;> first | rfl | (rw [hi _ (by simp [zS])])
theorem YO (E:Env) (ty:TypeId) (m:AV) (hi:∀ id,id ∈ zS m → h'[id]?=h[id]?):Qd E ty m h'=Qd E ty m h:=by
 unfold Qd
 split <;> first | rfl | (rw [hi _ (by simp [zS])])
theorem Ww (E:Env) (ty:TypeId) (m k:AV) (hi:∀ id,id ∈ zS m → h'[id]?=h[id]?):xI E ty m k h'=xI E ty m k h:=by
 unfold xI
 split <;> first | rfl | (rw [hi _ (by simp [zS])])
theorem Zz (E:Env) (op:Op) (ty:TypeId) (nw:Nat) (hs:∀ x,x ∈ op.operands → zjH t t' h h' x):kE E op ty t' h' nw=kE E op ty t h nw:=by
 have v1:∀ x,x ∈ op.operands → opd t' x=opd t x:=fun x hx=>(hs x hx).val
 cases op with
 | assign x =>
  have e:=v1 x (by simp [Op.operands])
  unfold kE
  split <;> rename_i hq <;> first | rfl | (exfalso;cases hq;done) | (cases hq;simp only [e];done) | (rename_i hq2;cases hq2;simp only [e])
 | load ty' a =>
  have e:=hs a (by simp [Op.operands])
  simp only [kE,e.val]
  cases ha:opd t a with
  | none=>rfl
  | some v=>simp only [];rw [zdK E ty' v (e.ids v ha)]
 | store ty' a x =>
  have e:=hs a (by simp [Op.operands])
  simp only [kE,e.val,v1 x (by simp [Op.operands])]
  cases ha:opd t a with
  | none=>rfl
  | some v =>
   cases opd t x with
   | none=>rfl
   | some y=>simp only [];rw [zaH E ty' v y (e.ids v ha)]
 | indexAddr ty' x i =>
  have e:=hs x (by simp [Op.operands])
  simp only [kE,e.val,v1 i (by simp [Op.operands])]
  cases ha:opd t x with
  | none=>rfl
  | some v =>
   cases opd t i with
   | none=>rfl
   | some y=>simp only [];rw [Vi E ty' v y (e.ids v ha)]
 | convert src dst x =>
  have e:=hs x (by simp [Op.operands])
  simp only [kE,e.val]
  cases ha:opd t x with
  | none=>rfl
  | some v=>simp only [];rw [zdn E src dst v nw (e.ids v ha)]
 | slice ty' x lo hi mx =>
  cases mx with
  | some m =>
   cases lo with
   | some _=>rfl
   | none =>
    cases hi with
    | none=>rfl
    | some hh=>simp only [kE,jM,v1 x (by simp [Op.operands]),v1 hh (by simp [Op.operands]),v1 m (by simp [Op.operands])]
  | none =>
   have e:=hs x (by simp [Op.operands])
   have o1:Jt t' lo=Jt t lo:=by
    cases lo with
    | none=>rfl
    | some y=>simp only [Jt,v1 y (by simp [Op.operands])]
   have o2:Jt t' hi=Jt t hi:=by
    cases hi with
    | none=>rfl
    | some y=>simp only [Jt,v1 y (by simp [Op.operands])]
   simp only [kE,jM,e.val,o1,o2]
   cases ha:opd t x with
   | none=>rfl
   | some v =>
    cases Jt t lo with
    | none=>rfl
    | some a =>
     cases Jt t hi with
     | none=>rfl
     | some b=>simp only [];rw [zaE E ty' v a b nw (e.ids v ha)]
 | build ty' ps =>
  simp only [kE,ZV ps.toList fun x hx=>hs x (by simpa [Op.operands] using hx)]
 | buildSlice ty' len ps =>
  simp only [kE,ZV ps.toList fun x hx=>hs x (by simpa [Op.operands] using hx)]
 | makeFunc fn first captured =>
  cases fn with
  | func f=>simp only [kE,Z0 captured.toList fun x hx=>hs x (by simp [Op.operands];exact .inr (by simpa using hx))]
  | _=>rfl
 | call c =>
  obtain ⟨callee,args,ats⟩:=c
  cases callee with
  | builtin b =>
   have hs':∀ x,x ∈ args.toList → zjH t t' h h' x:=fun x hx=>hs x (by simp [Op.operands,Call.operands];simpa using hx)
   simp only [kE,Z0 args.toList hs']
   cases ha:jj t args.toList with
   | none=>rfl
   | some l =>
    have hids:=Xr args.toList l hs' ha
    cases b <;> simp only []
    ·rw [JF E _ l nw hids]
    all_goals
     split
     ·first | rw [zcc E _ _ _ _ (hids _ (by simp)) (hids _ (by simp))] | rw [zd1 E _ _ (hids _ (by simp))] | rw [YO E _ _ (hids _ (by simp))] | rw [Ww E _ _ _ (hids _ (by simp))]
     ·rfl
  | _=>rfl
 | makeMap ty' r =>
  have o1:Jt t' r=Jt t r:=by
   cases r with
   | none=>rfl
   | some y=>simp only [Jt,v1 y (by simp [Op.operands])]
  simp only [kE,o1]
 | lookup ty' x i ok =>
  have e:=hs x (by simp [Op.operands])
  simp only [kE,e.val,v1 i (by simp [Op.operands])]
  cases ha:opd t x with
  | none=>rfl
  | some v =>
   cases opd t i with
   | none=>rfl
   | some y=>simp only [];rw [WU E ty' v y ok (e.ids v ha)]
 | mapUpdate ty' x i z =>
  have e:=hs x (by simp [Op.operands])
  simp only [kE,e.val,v1 i (by simp [Op.operands]),v1 z (by simp [Op.operands])]
  cases ha:opd t x with
  | none=>rfl
  | some v =>
   cases opd t i with
   | none=>rfl
   | some y =>
    cases opd t z with
    | none=>rfl
    | some u=>simp only [];rw [XL E ty' v y u (e.ids v ha)]
 | insert ty' x i z =>
  have e:=hs x (by simp [Op.operands])
  simp only [kE,e.val,v1 i (by simp [Op.operands]),v1 z (by simp [Op.operands])]
  cases ha:opd t x with
  | none=>rfl
  | some v =>
   cases opd t i with
   | none=>rfl
   | some y =>
    cases opd t z with
    | none=>rfl
    | some u=>simp only [];rw [XL E ty' v y u (e.ids v ha)]
 | move x=>simp only [kE,v1 x (by simp [Op.operands])]
 | pick c a b=>simp only [kE,v1 c (by simp [Op.operands]),v1 a (by simp [Op.operands]),v1 b (by simp [Op.operands])]
 | box _ x=>simp only [kE,v1 x (by simp [Op.operands])]
 | nilCheck x=>simp only [kE,v1 x (by simp [Op.operands])]
 | binOp o ty' x y z=>simp only [kE,v1 x (by simp [Op.operands]),v1 y (by simp [Op.operands])]
 | unOp o ty' x=>simp only [kE,v1 x (by simp [Op.operands])]
 | makeSlice ty' x y=>simp only [kE,v1 x (by simp [Op.operands]),v1 y (by simp [Op.operands])]
 | fieldAddr s x f=>simp only [kE,v1 x (by simp [Op.operands])]
 | field s x f=>simp only [kE,v1 x (by simp [Op.operands])]
 | index s x f=>simp only [kE,v1 x (by simp [Op.operands]),v1 f (by simp [Op.operands])]
 | extract x i=>simp only [kE,v1 x (by simp [Op.operands])]
 | _=>rfl
theorem zfu {id sz:Nat} {xs:List (List CV)}:∀ {l:List AV} {i:Nat},i ∈ (kV.frzAll id sz xs l).filterMap zk9 → i ∈ l.filterMap zk9:=by
 intro l i hi
 obtain ⟨v,hv,hiv⟩:=List.mem_filterMap.1 hi
 obtain ⟨y,hy,rfl⟩:=xZ hv
 refine List.mem_filterMap.2 ⟨y,hy,?_⟩
 cases y with
 | sl j off len =>
  simp only [kV] at hiv
  split at hiv
  ·split at hiv <;> cases hiv
  ·exact hiv
 | er j a b =>
  simp only [kV] at hiv
  split at hiv <;> cases hiv
 | es j a b n =>
  simp only [kV] at hiv
  split at hiv <;> cases hiv
 | _=>cases hiv
theorem zcU {id sz:Nat} {xs:List (List CV)} (v:AV) {i:Nat} (hi:i ∈ zS (kV id sz xs v)):i ∈ zS v:=by
 cases v with
 | sl j off len =>
  simp only [kV] at hi
  split at hi
  ·split at hi <;> cases hi
  ·exact hi
 | er j a b =>
  simp only [kV] at hi
  split at hi
  ·cases hi
  ·exact hi
 | es j a b n =>
  simp only [kV] at hi
  split at hi
  ·cases hi
  ·exact hi
 | agg vs=>exact zfu hi
 | fn f vs=>exact zfu hi
 | tup vs=>cases hi
 | _=>exact hi
theorem jF:∀ (ids:List Nat) (t t':List AV) (h h':List zf),(∀ id,id ∈ ids → h'[id]?=h[id]?) →
  (qh ids t' h').2=(qh ids t h).2 ∧ (∃ φ:AV → AV,(∀ i:Nat,(qh ids t h).1[i]?=(t[i]?).map φ) ∧ (∀ i:Nat,(qh ids t' h').1[i]?=(t'[i]?).map φ) ∧ ∀ v i,i ∈ zS (φ v) → i ∈ zS v) ∧
  ∀ j:Nat,h'[j]?=h[j]? → (app h' (qh ids t h).2)[j]?=(app h (qh ids t h).2)[j]?
 | [],t,t',h,h',_=>⟨rfl,⟨id,fun i=>by simp [qh],fun i=>by simp [qh],fun v i hi=>hi⟩,fun j hj=>hj⟩
 | a :: ids,t,t',h,h',hs=>by
  have ha:=hs a (by simp)
  cases hk:h[a]? with
  | none =>
   rw [hk] at ha
   simp only [qh,hk,ha]
   exact jF ids t t' h h' fun id hid=>hs id (by simp [hid])
  | some k =>
   rw [hk] at ha
   have h1:a < h.length:=(List.getElem?_eq_some_iff.1 hk).1
   have h2:a < h'.length:=(List.getElem?_eq_some_iff.1 ha).1
   cases k with
   | rows sz e xs =>
    have stay:∀ j:Nat,h'[j]?=h[j]? → (qW h' a zf.gone)[j]?=(qW h a zf.gone)[j]?:=fun j hj=>by
     simp only [qW,if_pos h1,if_pos h2]
     by_cases e:a=j
     ·subst e;simp [h1,h2]
     ·rw [List.getElem?_set_ne e,List.getElem?_set_ne e];exact hj
    obtain ⟨g1,⟨φ,g2,g3,g4⟩,g5⟩:=jF ids (kV.frzAll a sz xs t) (kV.frzAll a sz xs t') (qW h a .gone) (qW h' a .gone) fun id hid=>stay id (hs id (by simp [hid]))
    simp only [qh,hk,ha]
    refine ⟨by rw [g1],⟨φ ∘ kV a sz xs,fun i=>?_,fun i=>?_,fun v i hi=>zcU v (g4 _ i hi)⟩,fun j hj=>?_⟩
    ·rw [g2,qz,Option.map_map]
    ·rw [g3,qz,Option.map_map]
    ·simp only [app];exact g5 j (stay j hj)
   | _ =>
    simp only [qh,hk,ha]
    exact jF ids t t' h h' fun id hid=>hs id (by simp [hid])
theorem zeZ (v:AV) {i:Nat} (h:i ∈ zj6 v):i ∈ zS v:=by
 cases v <;> first | exact h | cases h
theorem zdZ (E:Env) (op:Op) (ty:TypeId) (nw:Nat) (hs:∀ x,x ∈ op.operands → zjH t t' h h' x):ZM E op ty t' h' nw=ZM E op ty t h nw:=by
 have hids:op.operands.toList.flatMap (wQ t')=op.operands.toList.flatMap (wQ t):=by
  have:∀ l:List Operand,(∀ x,x ∈ l → x ∈ op.operands) → l.flatMap (wQ t')=l.flatMap (wQ t):=fun l=>by
   induction l with
   | nil=>intro _;rfl
   | cons x l ih =>
    intro hl
    simp only [List.flatMap_cons]
    rw [ih fun y hy=>hl y (by simp [hy])]
    unfold wQ;rw [(hs x (hl x (by simp))).val]
  exact this _ fun x hx=>by simpa using hx
 have hmem:∀ id,id ∈ op.operands.toList.flatMap (wQ t) → h'[id]?=h[id]?:=fun id hid=>by
  obtain ⟨x,hx,hix⟩:=List.mem_flatMap.1 hid
  unfold wQ at hix
  split at hix
  ·rename_i v hv
   exact (hs x (by simpa using hx)).ids v hv id (zeZ v hix)
  ·cases hix
 obtain ⟨g1,⟨φ,g2,g3,g4⟩,g5⟩:=jF (op.operands.toList.flatMap (wQ t)) t t' h h' hmem
 unfold ZM
 rw [Zz E op ty nw hs,hids]
 simp only [g1]
 have:kE E op ty (qh (op.operands.toList.flatMap (wQ t)) t' h').1 (app h' (qh (op.operands.toList.flatMap (wQ t)) t h).2) nw=kE E op ty (qh (op.operands.toList.flatMap (wQ t)) t h).1 (app h (qh (op.operands.toList.flatMap (wQ t)) t h).2) nw:=by
  refine Zz E op ty nw fun x hx=>⟨?_,fun v hv id hid=>?_⟩
  ·cases x with
   | tmp i =>
    have:=(hs _ hx).val
    simp only [opd] at this ⊢
    rw [g2,g3,this]
   | _=>rfl
  ·refine g5 id ?_
   cases x with
   | tmp i =>
    simp only [opd] at hv
    rw [g2] at hv
    obtain ⟨v0,h0,rfl⟩:=Option.map_eq_some_iff.1 hv
    exact (hs _ hx).ids v0 h0 id (g4 _ _ hid)
   | const c=>exact (hs _ hx).ids v hv id hid
   | global g=>exact (hs _ hx).ids v hv id hid
   | func f=>exact (hs _ hx).ids v hv id hid
 rw [this]
end
end Go.Ev
namespace Go.Ev
open Go.RowKit
variable [qo]
def wV (R:List Nat):Nat → List zf → List zf
 | _,[]=>[]
 | i,k :: h=>(if R.contains i then k else zf.gone) :: wV R (i + 1) h
def mask (R:List Nat) (h:List zf):List zf:=wV R 0 h
theorem Qm (R:List Nat):∀ (h:List zf) (n i:Nat),(wV R n h)[i]?=(h[i]?).map fun k=>if R.contains (n + i) then k else zf.gone
 | [],n,i=>by simp [wV]
 | k :: h,n,0=>by simp [wV]
 | k :: h,n,i + 1=>by
  simp only [wV,List.getElem?_cons_succ]
  rw [Qm R h (n + 1) i,show n + 1 + i=n + (i + 1) by omega]
theorem xQ (R:List Nat) (h:List zf) (i:Nat):(mask R h)[i]?=(h[i]?).map fun k=>if R.contains i then k else zf.gone:=by
 unfold mask;rw [Qm];simp
theorem vf {R:List Nat} {h:List zf} {i:Nat} (hb:born h i=true):born (mask R h) i=true:=by
 unfold born at *;rw [xQ]
 cases hk:h[i]? with
 | none=>rw [hk] at hb;cases hb
 | some k =>
  rw [hk] at hb
  simp only [Option.map_some]
  by_cases hc:R.contains i=true
  ·simp only [hc,if_true];cases k <;> first | rfl | cases hb
  ·simp only [hc];rfl
theorem Kr {R:List Nat} {h:List zf} {i:Nat} {k:zf} (hk:(mask R h)[i]?=some k):(R.contains i=true ∧ h[i]?=some k) ∨ k = .gone:=by
 rw [xQ] at hk
 obtain ⟨k0,h0,rfl⟩:=Option.map_eq_some_iff.1 hk
 split
 ·rename_i hc;exact .inl ⟨hc,h0⟩
 ·right;rfl
theorem va {R:List Nat} {h:List zf} {ρ:Nat → Pl} {i:Nat} (ho:owns (mask R h) ρ i):R.contains i=true ∧ owns h ρ i:=by
 obtain ⟨⟨k,hk,h1,h2⟩,hp⟩:=ho
 rcases Kr hk with ⟨hc,h0⟩ | e
 ·exact ⟨hc,⟨k,h0,h1,h2⟩,hp⟩
 ·exact absurd e h1
theorem Good.mask {P:Program} {f:FuncId} {args:List AV} {h:List zf} {r:AV} {R:List Nat} (G:Good P f args (mask R h) r (mask R h)) (hr:r.sc (born h)=true):Good P f args h r h:=by
 intro w N ρ vs H hsc hl hrep
 have Hm:zw N (Ev.mask R h) ρ w:=⟨H.lt,fun i j hi hj=>H.inj i j (va hi).2 (va hj).2,fun i hi=>H.apart i (va hi).2,fun i k hk=>by
  rcases Kr hk with ⟨_,h0⟩ | e
  ·exact H.own i k h0
  ·subst e;trivial,fun i cs hk=>by
  rcases Kr hk with ⟨_,h0⟩ | e
  ·exact AV.zQ.all (fun i hi=>vf hi) _ (H.scope i _ h0)
  ·subst e;rfl,H.glob⟩
 refine (G w N ρ vs Hm (AV.zQ.all (fun i hi=>vf hi) _ hsc) hl hrep).mono ?_
 rintro v w' ⟨N2,ρ2,H2,hrep2,K,_⟩
 refine ⟨⟨N2,ρ2,⟨H2.lt,fun i j hi hj hb=>?_,fun i hi hN=>?_,fun i k hk=>?_,H.scope,H2.glob⟩,hrep2,?_,hr⟩⟩
 ·have ei:=(K.rho i (vf (jv hi.1))).2
  have ej:=(K.rho j (vf (jv hj.1))).2
  rw [ei,ej] at hb
  exact H.inj i j ⟨hi.1,by rw [← ei];exact hi.2⟩ ⟨hj.1,by rw [← ej];exact hj.2⟩ hb
 ·have ei:=(K.rho i (vf (jv hi.1))).2
  have hi':owns h ρ i:=⟨hi.1,by rw [← ei];exact hi.2⟩
  by_cases hc:R.contains i=true
  ·obtain ⟨⟨k,hk,h1,h2⟩,hp⟩:=hi
   exact H2.apart i ⟨⟨k,by rw [xQ,hk];simp only [Option.map_some,hc,if_true],h1,h2⟩,hp⟩ hN
  ·rw [ei] at hN
   rcases K.from_ _ hN with h1 | h1 | ⟨j,hj,h1⟩
   ·exact H.apart i hi' h1
   ·have:=w9 H hi';omega
   ·have:=H.inj j i (va hj).2 hi' h1
    subst this
    exact hc (va hj).1
 ·by_cases hc:R.contains i=true
  ·exact H2.own i k (by rw [xQ,hk];simp only [Option.map_some,hc,if_true])
  ·by_cases hu:k = .zy
   ·subst hu;trivial
   ·by_cases hg:k = .gone
    ·subst hg;trivial
    ·have hb:born h i=true:=jv ⟨k,hk,hg,hu⟩
     have ei:=(K.rho i (vf hb)).2
     rw [ei]
     refine (H.own i k hk).mono (q:=born h) (H.scope i _ hk) (fun h1 h2 h3=>?_) (fun b hN=>K.stay b hN) (fun j hj=>(K.rho j (vf hj)).2)
     have ho:owns h ρ i:=⟨⟨k,hk,h1,h2⟩,h3⟩
     refine K.rest _ (w9 H ho) fun j hj e=>?_
     have:=H.inj j i (va hj).2 ho e
     subst this
     exact hc (va hj).1
 ·refine ⟨K.os,K.tape,K.output,K.size,fun i hi=>⟨hi,(K.rho i (vf hi)).2⟩,K.stay,fun b hb=>?_,fun b hb hn=>K.rest b hb fun i hi=>hn i (va hi).2,fun i hi=>?_⟩
  ·rcases K.from_ b hb with h1 | h1 | ⟨j,hj,h1⟩
   ·exact .inl h1
   ·exact .inr (.inl h1)
   ·exact .inr (.inr ⟨j,(va hj).2,h1⟩)
  ·have ei:=(K.rho i (vf (jv hi.1))).2
   exact .inr ⟨i,⟨hi.1,by rw [← ei];exact hi.2⟩,by rw [ei]⟩
theorem zff {R:List Nat} {h h':List zf} (hl:h'.length=h.length) (hs:∀ i:Nat,i ∈ R → h'[i]?=h[i]?):mask R h'=mask R h:=by
 apply List.ext_getElem?
 intro i
 rw [xQ,xQ]
 by_cases hc:i ∈ R
 ·rw [hs i hc]
 ·have:R.contains i=false:=by simpa using hc
  simp only [this,Bool.false_eq_true,if_false]
  rcases Nat.lt_or_ge i h.length with h1 | h1
  ·rw [List.getElem?_eq_getElem h1,List.getElem?_eq_getElem (show i < h'.length by omega)];rfl
  ·rw [List.getElem?_eq_none h1,List.getElem?_eq_none (show h'.length ≤ i by omega)]
def yZ:AV → List Nat
 | .sl id _ _ | .ptr id _ | .er id _ _ | .es id _ _ _ | .mp id=>[id]
 | .ifc _ v=>yZ v
 | .agg vs | .tup vs | .fn _ vs=>all vs
 | _=>[]
where
 all:List AV → List Nat
  | []=>[]
  | v :: vs=>yZ v ++ all vs
def KX (h:List zf) (i:Nat):List Nat:=match h[i]? with
 | some k=>yZ.all k.avs
 | _=>[]
def reach:Nat → List zf → List Nat → List Nat
 | 0,_,ids=>ids
 | n + 1,h,ids=>match ids with
  | []=>[]
  | i :: is=>reach n h ((i :: is) ++ (i :: is).flatMap (KX h))
theorem Yh (h:List zf):∀ (n:Nat) (ids:List Nat) (i:Nat),i ∈ ids → i ∈ reach n h ids
 | 0,_,_,hi=>hi
 | n + 1,[],_,hi=>by cases hi
 | n + 1,a :: is,i,hi=>by
  unfold reach
  exact Yh h n _ i (List.mem_append_left _ hi)
theorem VV {h h':List zf}:∀ (n:Nat) (ids:List Nat),(∀ i,i ∈ reach n h ids → h'[i]?=h[i]?) → reach n h' ids=reach n h ids
 | 0,_,_=>rfl
 | n + 1,[],_=>rfl
 | n + 1,a :: is,hs=>by
  simp only [reach] at hs ⊢
  have e:(a :: is).flatMap (KX h')=(a :: is).flatMap (KX h):=by
   have:∀ l:List Nat,(∀ i,i ∈ l → h'[i]?=h[i]?) → l.flatMap (KX h')=l.flatMap (KX h):=fun l=>by
    induction l with
    | nil=>intro _;rfl
    | cons x l ih =>
     intro hl
     simp only [List.flatMap_cons]
     rw [ih fun y hy=>hl y (by simp [hy])]
     unfold KX;rw [hl x (by simp)]
   exact this _ fun i hi=>hs i (Yh h n _ i (List.mem_append_left _ hi))
  rw [e]
  exact VV n _ hs
def CV.same:CV → CV → Bool
 | .int k n,.int k' n'=>decide (k=k') && decide (n=n')
 | .bool b,.bool b'=>b == b'
 | .str s,.str s'=>decide (s.data.toList=s'.data.toList)
 | .nl,.nl=>true
 | .lst sz x xs,.lst sz' x' xs'=>decide (sz=sz') && (x == x') && same2 xs xs'
 | .fn f cs,.fn f' cs'=>decide (f=f') && same1 cs cs'
 | .nfn,.nfn=>true
 | .nptr,.nptr=>true
 | .nif,.nif=>true
 | .nmp,.nmp=>true
 | .pt a,.pt b=>same1 a b
 | _,_=>false
where
 same1:List CV → List CV → Bool
  | [],[]=>true
  | a :: us,b :: bs=>CV.same a b && same1 us bs
  | _,_=>false
 same2:List (List CV) → List (List CV) → Bool
  | [],[]=>true
  | a :: us,b :: bs=>same1 a b && same2 us bs
  | _,_=>false
def AV.same:AV → AV → Bool
 | .c v,.c v'=>v.same v'
 | .agg vs,.agg vs'=>sames vs vs'
 | .tup vs,.tup vs'=>sames vs vs'
 | .ptr i o,.ptr i' o'=>decide (i=i') && decide (o=o')
 | .sl i o l,.sl i' o' l'=>decide (i=i') && decide (o=o') && decide (l=l')
 | .mp i,.mp i'=>decide (i=i')
 | .er i o l,.er i' o' l'=>decide (i=i') && decide (o=o') && decide (l=l')
 | .es i o l n,.es i' o' l' n'=>decide (i=i') && decide (o=o') && decide (l=l') && decide (n=n')
 | .ifc t v,.ifc t' v'=>decide (t=t') && AV.same v v'
 | .rd cs,.rd cs'=>CV.same.same1 cs cs'
 | .fn f cs,.fn f' cs'=>decide (f=f') && sames cs cs'
 | .und,.und=>true
 | .dead,.dead=>true
 | _,_=>false
where
 sames:List AV → List AV → Bool
  | [],[]=>true
  | a :: us,b :: bs=>AV.same a b && sames us bs
  | _,_=>false
def zjo:List (CV × AV × Nat) → List (CV × AV × Nat) → Bool
 | [],[]=>true
 | (k,v,b) :: es,(k',v',b') :: es'=>k.same k' && v.same v' && decide (b=b') && zjo es es'
 | _,_=>false
def zir:List (List AV) → List (List AV) → Bool
 | [],[]=>true
 | a :: us,b :: bs=>AV.same.sames a b && zir us bs
 | _,_=>false
def zf.same:zf → zf → Bool
 | .box cs,.box cs'=>AV.same.sames cs cs'
 | .rows sz e xs,.rows sz' e' xs'=>decide (sz=sz') && decide (e=e') && CV.same.same2 xs xs'
 | .mp es c,.mp es' c'=>zjo es es' && decide (c=c')
 | .vec sz e xs,.vec sz' e' xs'=>decide (sz=sz') && decide (e=e') && zir xs xs'
 | .gone,.gone=>true
 | .zy,.zy=>true
 | _,_=>false
def zdH:List zf → List zf → Bool
 | [],[]=>true
 | a :: us,b :: bs=>a.same b && zdH us bs
 | _,_=>false
mutual
theorem CV.jP:∀ (a b:CV),CV.same a b=true → a=b
 | .int k n,b,h=>by cases b <;> simp_all [CV.same]
 | .bool x,b,h=>by cases b <;> simp_all [CV.same]
 | .str s,b,h=>by
  cases b <;> simp [CV.same] at h
  rename_i s'
  obtain ⟨⟨l⟩⟩:=s;obtain ⟨⟨l'⟩⟩:=s'
  simp at h;subst h;rfl
 | .nl,b,h=>by cases b <;> simp_all [CV.same]
 | .lst sz x xs,b,h=>by
  cases b <;> simp [CV.same] at h
  obtain ⟨⟨h1,h2⟩,h3⟩:=h
  subst h1 h2
  rw [CV.We xs _ h3]
 | .fn f cs,b,h=>by
  cases b <;> simp [CV.same] at h
  obtain ⟨h1,h2⟩:=h
  subst h1
  rw [CV.yW cs _ h2]
 | .nfn,b,h=>by cases b <;> simp_all [CV.same]
 | .nptr,b,h=>by cases b <;> simp_all [CV.same]
 | .nif,b,h=>by cases b <;> simp_all [CV.same]
 | .nmp,b,h=>by cases b <;> simp_all [CV.same]
 | .pt cs,b,h=>by
  cases b <;> simp [CV.same] at h
  rw [CV.yW cs _ h]
theorem CV.yW:∀ (a b:List CV),CV.same.same1 a b=true → a=b
 | [],b,h=>by cases b <;> simp_all [CV.same.same1]
 | x :: xs,b,h=>by
  cases b with
  | nil=>simp [CV.same.same1] at h
  | cons y ys =>
   simp only [CV.same.same1,Bool.and_eq_true] at h
   rw [CV.jP x y h.1,CV.yW xs ys h.2]
theorem CV.We:∀ (a b:List (List CV)),CV.same.same2 a b=true → a=b
 | [],b,h=>by cases b <;> simp_all [CV.same.same2]
 | x :: xs,b,h=>by
  cases b with
  | nil=>simp [CV.same.same2] at h
  | cons y ys =>
   simp only [CV.same.same2,Bool.and_eq_true] at h
   rw [CV.yW x y h.1,CV.We xs ys h.2]
end
mutual
theorem AV.jP:∀ (a b:AV),AV.same a b=true → a=b
 | .c v,b,h=>by
  cases b <;> simp [AV.same] at h
  rw [CV.jP _ _ h]
 | .agg vs,b,h=>by
  cases b <;> simp [AV.same] at h
  rw [AV.x4 vs _ h]
 | .tup vs,b,h=>by
  cases b <;> simp [AV.same] at h
  rw [AV.x4 vs _ h]
 | .ptr i o,b,h=>by cases b <;> simp_all [AV.same]
 | .sl i o l,b,h=>by cases b <;> simp_all [AV.same]
 | .er i o l,b,h=>by cases b <;> simp_all [AV.same]
 | .es i o l n,b,h=>by cases b <;> simp_all [AV.same]
 | .ifc t v,b,h=>by
  cases b <;> simp [AV.same] at h
  rw [h.1,AV.jP v _ h.2]
 | .mp i,b,h=>by cases b <;> simp_all [AV.same]
 | .rd cs,b,h=>by
  cases b <;> simp [AV.same] at h
  rw [CV.yW _ _ h]
 | .fn f cs,b,h=>by
  cases b <;> simp [AV.same] at h
  obtain ⟨h1,h2⟩:=h
  subst h1
  rw [AV.x4 cs _ h2]
 | .und,b,h=>by cases b <;> simp_all [AV.same]
 | .dead,b,h=>by cases b <;> simp_all [AV.same]
theorem AV.x4:∀ (a b:List AV),AV.same.sames a b=true → a=b
 | [],b,h=>by cases b <;> simp_all [AV.same.sames]
 | x :: xs,b,h=>by
  cases b with
  | nil=>simp [AV.same.sames] at h
  | cons y ys =>
   simp only [AV.same.sames,Bool.and_eq_true] at h
   rw [AV.jP x y h.1,AV.x4 xs ys h.2]
end
theorem zbl:∀ (a b:List (CV × AV × Nat)),zjo a b=true → a=b
 | [],[],_=>rfl
 | [],_ :: _,h=>by cases h
 | _ :: _,[],h=>by cases h
 | (k,v,b) :: es,(k',v',b') :: es',h=>by
  simp only [zjo,Bool.and_eq_true,decide_eq_true_eq] at h
  rw [CV.jP _ _ h.1.1.1,AV.jP _ _ h.1.1.2,h.1.2,zbl es es' h.2]
theorem zbj:∀ (a b:List (List AV)),zir a b=true → a=b
 | [],[],_=>rfl
 | [],_ :: _,h=>by cases h
 | _ :: _,[],h=>by cases h
 | x :: xs,y :: ys,h=>by
  simp only [zir,Bool.and_eq_true] at h
  rw [AV.x4 x y h.1,zbj xs ys h.2]
theorem zf.jP (a b:zf) (h:a.same b=true):a=b:=by
 cases a <;> cases b <;> simp [zf.same] at h <;> first | rfl | skip
 ·rw [AV.x4 _ _ h]
 ·obtain ⟨⟨h1,h2⟩,h3⟩:=h
  subst h1 h2
  rw [CV.We _ _ h3]
 ·rw [zbl _ _ h.1,h.2]
 ·obtain ⟨⟨h1,h2⟩,h3⟩:=h
  subst h1 h2
  rw [zbj _ _ h3]
theorem zbO:∀ (a b:List zf),zdH a b=true → a=b
 | [],b,h=>by cases b <;> simp_all [zdH]
 | x :: xs,b,h=>by
  cases b with
  | nil=>simp [zdH] at h
  | cons y ys =>
   simp only [zdH,Bool.and_eq_true] at h
   rw [zf.jP x y h.1,zbO xs ys h.2]
def q9 (t:List AV) (o:Oper):Option (FuncId × List AV):=match o.op with
 | .call c=>match c.callee with
  | .value fo=>match opd t fo,jj t c.args.toList with
   | some fv,some args=>match zfL fv with
    | some (f,caps)=>some (f,args ++ caps)
    | none=>none
   | _,_=>none
  | _=>none
 | _=>none
def vN (o:Oper):Bool:=match o.op with
 | .call c=>match c.callee with
  | .value _=>true
  | _=>false
 | _=>false
theorem vq {t:List AV} {o:Oper} {f:FuncId} {us:List AV} (h:q9 t o=some (f,us)):∃ c fo fv args caps,o.op = .call c ∧ c.callee = .value fo ∧ opd t fo=some fv ∧ jj t c.args.toList=some args ∧ zfL fv=some (f,caps) ∧ us=args ++ caps:=by
 unfold q9 at h
 split at h
 ·rename_i c hc
  split at h
  ·rename_i fo hfo
   split at h
   ·rename_i fv args h1 h2
    split at h
    ·rename_i f' caps h3
     cases h
     exact ⟨c,fo,fv,args,caps,hc,hfo,h1,h2,h3,rfl⟩
    ·cases h
   ·cases h
  ·cases h
 ·cases h
theorem yy {t t':List AV} {o:Oper} (hs:∀ x,x ∈ o.op.operands → opd t' x=opd t x):q9 t' o=q9 t o:=by
 unfold q9
 cases hop:o.op with
 | call c =>
  simp only []
  cases hc:c.callee with
  | value fo =>
   have hfo:fo ∈ o.op.operands:=by simp [hop,Op.operands,Call.operands,hc]
   have hargs:∀ x,x ∈ c.args.toList → x ∈ o.op.operands:=fun x hx=>by simp [hop,Op.operands,Call.operands,hc];right;simpa using hx
   have ha:∀ l:List Operand,(∀ x,x ∈ l → x ∈ o.op.operands) → jj t' l=jj t l:=fun l=>by
    induction l with
    | nil=>intro _;rfl
    | cons x l ih =>
     intro hl
     unfold jj
     rw [hs x (hl x (by simp)),ih fun y hy=>hl y (by simp [hy])]
   simp only [hs fo hfo,ha _ hargs]
  | _=>rfl
 | _=>rfl
def qE (h:List zf) (args:List AV):List Nat:=reach 3 h (yZ.all args)
end Go.Ev
namespace Go.Ev
open Go.RowKit
variable [qo]
def Kg (P:Program) (C:FuncId → List AV → List zf → Option AV):Prop:=∀ f args h r,C f args h=some r → Good P f args h r h
def vi (b:Bool) (op:Op) (nw:Nat) (p:AV × List (Nat × zf)):AV × List (Nat × zf):=match b,op,p with
 | true,.buildSlice _ _ _,(.sl id 0 len,[(id',.rows sz _ xs)])=>if id=nw ∧ id'=nw ∧ len=xs.length then (.c (.lst sz false xs),[(nw,.gone)]) else p
 | _,_,p=>p
theorem Vw (b:Bool) (op:Op) (nw:Nat) (p:AV × List (Nat × zf)):vi b op nw p=p ∨ ∃ sz e xs,p=(.sl nw 0 xs.length,[(nw,.rows sz e xs)]) ∧ vi b op nw p=(.c (.lst sz false xs),[(nw,.gone)]):=by
 by_cases h:vi b op nw p=p
 ·exact .inl h
 ·right
  unfold vi at h
  split at h
  ·split at h
   ·rename_i hc
    obtain ⟨h1,h2,h3⟩:=hc
    subst h1 h2 h3
    exact ⟨_,_,_,rfl,by simp [vi]⟩
   ·exact absurd rfl h
  ·exact absurd rfl h
theorem Z2 {id sz:Nat} {xs:List (List CV)} {q:Nat → Bool} (hq:q id=false):∀ v:AV,v.sc q=true → kV id sz xs v=v
 | .c _,_ | .rd _,_ | .und,_ | .dead,_ | .ptr _ _,_ | .mp _,_=>rfl
 | .ifc t v,h=>by simp only [kV];rw [Z2 hq v h]
 | .sl i _ _,h | .er i _ _,h | .es i _ _ _,h=>by
  have:i ≠ id:=fun e=>by subst e;simp only [AV.sc] at h;rw [hq] at h;cases h
  simp only [kV,if_neg this]
 | .agg vs,h=>by simp only [kV];rw [all vs h]
 | .tup vs,h=>by simp only [kV];rw [all vs h]
 | .fn _ vs,h=>by simp only [kV];rw [all vs h]
where
 all:∀ vs:List AV,AV.sc.scAll q vs=true → kV.frzAll id sz xs vs=vs
  | [],_=>rfl
  | v :: vs,h=>by
   simp only [AV.sc.scAll,Bool.and_eq_true] at h
   simp only [kV.frzAll];rw [Z2 hq v h.1,all vs h.2]
theorem zaO (id sz:Nat) (xs:List (List CV)) (t:List AV) (d:Option Tmp) (v:AV):kV.frzAll id sz xs (kN t d v)=kN (kV.frzAll id sz xs t) d (kV id sz xs v):=by
 cases d with
 | none=>rfl
 | some d =>
  apply List.ext_getElem?
  intro i
  rw [qz]
  simp only [kN]
  by_cases e:d=i
  ·subst e
   rw [List.getElem?_set_self',List.getElem?_set_self',qz]
   cases t[d]? <;> rfl
  ·rw [List.getElem?_set_ne e,List.getElem?_set_ne e,qz]
theorem Sim.closed {X:Ent} {s:St} {a a':Act} {w w':World} {nw sz:Nat} {e:TypeId} {xs:List (List CV)} {d:Option Tmp} (hs:Sim X s a w) (hf:kA s.h nw) (h:Sim X ⟨kN s.t d (.sl nw 0 xs.length),app s.h [(nw,.rows sz e xs)]⟩ a' w') :
  Sim X ⟨kN s.t d (.c (.lst sz false xs)),app s.h [(nw,.gone)]⟩ a' w':=by
 obtain ⟨N,ρ,S⟩:=hs
 have hnb:born s.h nw=false:=by
  unfold born
  rcases hf with hf | hf
  ·rw [List.getElem?_eq_none (by omega)]
  ·rw [hf]
 have h1:=h.freeze nw
 have hget:(app s.h [(nw,zf.rows sz e xs)])[nw]?=some (.rows sz e xs):=by
  simp only [app,qW]
  split
  ·rename_i hlt;rw [List.getElem?_set_self hlt]
  ·rename_i hge
   have:nw=s.h.length:=by
    rcases hf with hf | hf
    ·exact hf
    ·exact absurd (List.getElem?_eq_some_iff.1 hf).1 hge
   subst this;simp
 have hfr:Ev.freeze nw ⟨kN s.t d (.sl nw 0 xs.length),app s.h [(nw,zf.rows sz e xs)]⟩=⟨kN s.t d (.c (.lst sz false xs)),app s.h [(nw,.gone)]⟩:=by
  unfold Ev.freeze
  simp only [hget]
  congr 1
  ·rw [zaO,Z2.all hnb _ S.sc]
   simp [kV]
  ·have hb:∀ l:List zf,(∀ (i:Nat) k,l[i]?=some k → AV.sc.scAll (born s.h) k.avs=true) → l.map (zeh nw sz xs)=l:=fun l hl=>by
    apply List.ext_getElem?
    intro i
    rw [List.getElem?_map]
    cases hi:l[i]? with
    | none=>rfl
    | some k =>
     cases k with
     | box cs=>simp only [Option.map_some,zeh,Z2.all hnb cs (hl i _ hi)]
     | mp es c=>simp only [Option.map_some,zeh,zas fun v hv=>Z2 hnb v (ze.1 (hl i _ hi) v hv)]
     | vec sz' e' ys=>simp only [Option.map_some,zeh,zef fun v hv=>Z2 hnb v (ze.1 (hl i _ hi) v hv)]
     | _=>rfl
   have hb0:=hb s.h fun i cs hi=>S.heap.scope i cs hi
   simp only [app,qW]
   split
   ·rename_i hlt
    rw [List.map_set,hb0,List.set_set]
   ·rename_i hge
    have:nw=s.h.length:=by
     rcases hf with hf | hf
     ·exact hf
     ·exact absurd (List.getElem?_eq_some_iff.1 hf).1 hge
    subst this
    rw [List.map_append,hb0]
    simp [zeh]
 rw [hfr] at h1
 exact h1
def act (E:Env) (C:FuncId → List AV → List zf → Option AV) (ops:Array Oper) (o:Oper) (s:St) (nw:Nat):Option (AV × List (Nat × zf)):=
 match zC ops s.t o with
 | some false=>some (.und,[])
 | some true=>if vN o then
   match q9 s.t o with
   | some (f,args)=>let R:=qE s.h args
    match C f args (mask R s.h) with
    | some r=>if r.sc (fun i=>R.contains i && born s.h i) then some (r,[]) else none
    | none=>none
   | none=>none
  else (ZM E o.op o.type s.t s.h nw).map (vi E.cls o.op nw)
 | none=>none
section
variable {P:Program} {Q:Exit → Act → World → Prop} {s:St}
theorem Xa {X:Ent} {ops:Array Oper} {i:Nat} {o:Oper} {a:Act} {w:World} {K:Act → World → Prop} (hi:ops[i]?=some o) (hw:zC ops s.t o=some false) (hs:Sim X s a w) (h:∀ a' w',Sim X ⟨kN s.t o.dst .und,s.h⟩ a' w' → K a' w'):wpOp P ops Q i K a w:=by
 unfold wpOp;rw [hi]
 simp only [qQ hs hw]
 obtain ⟨N,ρ,S⟩:=hs
 exact h _ w (Sim.put S (zn.quiet S.heap .und rfl) o.dst)
theorem YP {E:Env} (T:zE P E) {X:Ent} {ops:Array Oper} {i:Nat} {o:Oper} {a:Act} {w:World} {K:Act → World → Prop} {nw:Nat} {v:AV} {U:List (Nat × zf)} (hi:ops[i]?=some o) (hw:zC ops s.t o=some true) (hf:kA s.h nw) (hv:ZM E o.op o.type s.t s.h nw=some (v,U)) (hs:Sim X s a w) (h:∀ a' w',Sim X ⟨kN s.t o.dst v,app s.h U⟩ a' w' → K a' w'):wpOp P ops Q i K a w:=by
 unfold wpOp;rw [hi]
 simp only [qQ hs hw,if_true]
 obtain ⟨N,ρ,S⟩:=hs
 refine .inl ?_
 unfold Oper.wp
 obtain ⟨nx,x,w',hr,hnx,ho⟩:=za0 T S.heap S.slots S.sc hf hv
 rw [hr]
 rcases hnx with rfl | ⟨rfl,rfl⟩
 ·exact h _ w' (Sim.put S ho o.dst)
 ·exact h _ w' (Sim.put S ho o.dst)
theorem Ks {X:Ent} {ops:Array Oper} {i:Nat} {o:Oper} {a:Act} {w:World} {K:Act → World → Prop} {c:Call} {fo:Operand} {fv:AV} {f:FuncId} {caps args:List AV} {r:AV} {h':List zf} (hi:ops[i]?=some o) (hw:zC ops s.t o=some true)
  (hop:o.op = .call c) (hc:c.callee = .value fo) (hf:opd s.t fo=some fv) (hfn:zfL fv=some (f,caps)) (ha:jj s.t c.args.toList=some args) (G:Good P f (args ++ caps) s.h r h') (hs:Sim X s a w) (h:∀ a' w',Sim X ⟨kN s.t o.dst r,h'⟩ a' w' → K a' w'):wpOp P ops Q i K a w:=by
 unfold wpOp;rw [hi]
 simp only [qQ hs hw,if_true]
 obtain ⟨N,ρ,S⟩:=hs
 refine .inl ?_
 unfold Oper.wp
 obtain ⟨vs,hvs,hl,hrep,hsc⟩:=zbi (zz S.slots hf) hfn
 obtain ⟨p1,p2,p3⟩:=jh S.slots c.args.toList args ha
 have hfsc:AV.sc.scAll (born s.h) caps=true:=hsc _ (kB S.sc hf)
 let xs:=c.args.toList.map a.eval
 have e1:(execOp a.eval o).run P w=(callFunc f (xs ++ vs).toArray).run P w:=by
  have e2:c.args.map a.eval ++ vs.toArray=(xs ++ vs).toArray:=by
   apply Array.toList_inj.1;simp [xs]
  simp [execOp,hop,resolve,hc,hvs,Deferred.ofValue,invoke]
  rw [e2]
 rw [e1]
 have e3:xs.length=args.length:=by simp [xs,p1]
 refine Ql (R:=fun v w'=>zn N s.h ρ w r h' v w') (G w N ρ (xs ++ vs) S.heap ?_ (by simp [xs,p1,hl]) ?_) ?_
 ·refine ze.2 fun x hx=>?_
  rcases List.mem_append.1 hx with h1 | h1
  ·exact ze.1 (p3 _ S.sc) x h1
  ·exact ze.1 hfsc x h1
 ·intro i h1 h2
  by_cases hlt:i < args.length
  ·rw [List.getElem_append_left hlt,List.getElem_append_left (by rw [e3];exact hlt)]
   have:=p2 i hlt (by rw [← p1];exact hlt)
   simp only [xs,List.getElem_map]
   exact this
  ·have hge:args.length ≤ i:=by omega
   rw [List.getElem_append_right hge,List.getElem_append_right (by omega)]
   have:=hrep (i - args.length) (by simp at h1;omega) (by simp [e3] at h2;omega)
   simpa [e3] using this
 ·intro v w' ho
  exact h _ w' (Sim.put S ho o.dst)
theorem zbg {E:Env} (T:zE P E) {C:FuncId → List AV → List zf → Option AV} (hC:Kg P C) {X:Ent} {ops:Array Oper} {i:Nat} {o:Oper} {a:Act} {w:World} {K:Act → World → Prop} {nw:Nat} {v:AV} {U:List (Nat × zf)} (hi:ops[i]?=some o) (hf:kA s.h nw) (hv:act E C ops o s nw=some (v,U)) (hs:Sim X s a w) (h:∀ a' w',Sim X ⟨kN s.t o.dst v,app s.h U⟩ a' w' → K a' w'):wpOp P ops Q i K a w:=by
 unfold act at hv
 split at hv
 ·rename_i hw
  cases hv
  exact Xa hi hw hs h
 ·rename_i hw
  split at hv
  ·split at hv
   ·rename_i f args hc
    simp only at hv
    split at hv
    ·rename_i r hr
     split at hv
     ·rename_i hsc
      cases hv
      obtain ⟨c,fo,fv,as1,caps,q1,q2,q3,q4,q5,rfl⟩:=vq hc
      exact Ks hi hw q1 q2 q3 q5 q4 (Good.mask (hC _ _ _ _ hr) (AV.zQ (fun i hi=>by simp only [Bool.and_eq_true] at hi;exact hi.2) _ hsc)) hs h
     ·cases hv
    ·cases hv
   ·cases hv
  ·obtain ⟨p,hp,he⟩:=Option.map_eq_some_iff.1 hv
   obtain ⟨v0,U0⟩:=p
   refine YP T hi hw hf hp hs fun a' w' hs'=>?_
   rcases Vw E.cls o.op nw (v0,U0) with h1 | ⟨sz,e,xs,h1,h2⟩
   ·rw [h1] at he;cases he;exact h a' w' hs'
   ·rw [h2] at he;cases he;cases h1
    exact h a' w' (hs.closed hf hs')
 ·cases hv
end
def zf6 (t:List AV) (x:Operand):List Nat:=match opd t x with
 | some v=>zS v
 | none=>[]
def Ji:Op → Bool
 | .move _=>true
 | _=>false
def vt (s:St) (o:Oper):List Nat:=if vN o then
  match q9 s.t o with
  | some (_,args)=>qE s.h args
  | none=>[]
 else if Ji o.op then [] else o.op.operands.toList.flatMap (zf6 s.t)
theorem zcJ (E:Env) (op:Op) (ty:TypeId) (nw:Nat) {t t':List AV} {h h':List zf} (hm:Ji op=true) (hv:∀ x,x ∈ op.operands → opd t' x=opd t x):ZM E op ty t' h' nw=ZM E op ty t h nw:=by
 cases op <;> first | cases hm | skip
 rename_i x
 have:=hv x (by simp [Op.operands])
 simp only [ZM,kE,this,zbU,Bool.false_eq_true,if_false]
theorem zbv (E:Env) (C:FuncId → List AV → List zf → Option AV) (ops:Array Oper) (o:Oper) {s s':St} (nw:Nat) (hl:s'.h.length=s.h.length) (ht:∀ d,d ∈ o.looksAt ops → s'.t[d]?=s.t[d]?) (hh:∀ id,id ∈ vt s o → s'.h[id]?=s.h[id]?):act E C ops o s' nw=act E C ops o s nw:=by
 have hval:∀ x,x ∈ o.op.operands → opd s'.t x=opd s.t x:=fun x hx=>by
  cases x with
  | tmp d=>exact ht d (List.mem_append_left _ (List.mem_filterMap.2 ⟨.tmp d,by simpa using hx,rfl⟩))
  | _=>rfl
 have hw:zC ops s'.t o=zC ops s.t o:=by
  unfold zC
  cases hg:o.guard with
  | none=>rfl
  | some gw =>
   obtain ⟨g,want⟩:=gw
   simp only []
   cases hd:(ops[g]?).bind (·.dst) with
   | none=>rfl
   | some d=>simp only [Option.bind_some];rw [ht d (by simp [Oper.looksAt,hg,hd])]
 unfold act
 rw [hw]
 cases zC ops s.t o with
 | none=>rfl
 | some b =>
  cases b with
  | false=>rfl
  | true =>
   simp only []
   cases hg:vN o with
   | true =>
    simp only [if_true]
    rw [yy hval]
    cases hc:q9 s.t o with
    | none=>rfl
    | some fa =>
     obtain ⟨f,args⟩:=fa
     simp only []
     have hr:vt s o=qE s.h args:=by simp [vt,hg,hc]
     rw [hr] at hh
     have e1:qE s'.h args=qE s.h args:=VV 3 _ hh
     rw [e1,zff hl hh]
     have e2:(fun i=>(qE s.h args).contains i && born s'.h i)=(fun i=>(qE s.h args).contains i && born s.h i):=funext fun i=>by
      by_cases hi:i ∈ qE s.h args
      ·have:=hh i hi
       unfold born;rw [this]
      ·have:(qE s.h args).contains i=false:=by simpa using hi
       simp only [this,Bool.false_and]
     rw [e2]
   | false =>
    simp only [Bool.false_eq_true,if_false]
    cases hm:Ji o.op with
    | true=>rw [zcJ E o.op o.type nw hm hval]
    | false =>
    refine congrArg (Option.map (vi E.cls o.op nw)) <| zdZ E o.op o.type nw fun x hx=>⟨hval x hx,fun v hv id hid=>hh id ?_⟩
    simp only [vt,hg,hm,Bool.false_eq_true,if_false]
    exact List.mem_flatMap.2 ⟨x,by simpa using hx,by unfold zf6;rw [hv];exact hid⟩
end Go.Ev
namespace Go.Ev
open Go.RowKit
variable [qo]
structure Rec where
 v:AV
 U:List (Nat × zf)
 R:List Nat
def QC (ops:Array Oper) (rs:List Rec) (s:St) (i:Nat):St:=match ops[i]?,rs[i]? with
 | some o,some r=>⟨kN s.t o.dst r.v,app s.h r.U⟩
 | _,_=>s
def stD (ops:Array Oper) (rs:List Rec) (s0:St) (D:Nat → Bool):Nat → St
 | 0=>s0
 | n + 1=>if D n then QC ops rs (stD ops rs s0 D n) n else stD ops rs s0 D n
def vD (ops:Array Oper) (i:Nat):Option Tmp:=(ops[i]?).bind (·.dst)
def wE (rs:List Rec) (i:Nat):List Nat:=match rs[i]? with
 | some r=>r.U.map (·.1)
 | none=>[]
def Bnd (rs:List Rec) (m:Nat):Prop:=∀ i id,id ∈ wE rs i → id < m
theorem ZQ:∀ (U:List (Nat × zf)) (h:List zf),(∀ p,p ∈ U → p.1 < h.length) → (app h U).length=h.length
 | [],_,_=>rfl
 | (i,k) :: U,h,hb=>by
  have h1:i < h.length:=hb (i,k) (by simp)
  simp only [app,qW,if_pos h1]
  rw [ZQ U _ fun p hp=>by simpa using hb p (by simp [hp])]
  simp
theorem zfc:∀ (U:List (Nat × zf)) (h h':List zf) (id:Nat),h.length=h'.length → (∀ p,p ∈ U → p.1 < h.length) → (id ∈ U.map (·.1) ∨ h[id]?=h'[id]?) → (app h U)[id]?=(app h' U)[id]?
 | [],h,h',id,_,_,hi=>by
  rcases hi with hi | hi
  ·simp at hi
  ·exact hi
 | (i,k) :: U,h,h',id,hl,hb,hi=>by
  have h1:i < h.length:=hb (i,k) (by simp)
  simp only [app,qW,if_pos h1,if_pos (show i < h'.length by omega)]
  refine zfc U _ _ id (by simp [hl]) (fun p hp=>by simpa using hb p (by simp [hp])) ?_
  by_cases e:id=i
  ·subst e;right;simp [h1,show id < h'.length by omega]
  ·rcases hi with hi | hi
   ·simp only [List.map_cons,List.mem_cons] at hi
    exact .inl (hi.resolve_left e)
   ·right;rw [List.getElem?_set_ne (Ne.symm e),List.getElem?_set_ne (Ne.symm e)];exact hi
theorem zbL:∀ (U:List (Nat × zf)) (h:List zf) (id:Nat),(∀ p,p ∈ U → p.1 < h.length) → id ∉ U.map (·.1) → (app h U)[id]?=h[id]?
 | [],_,_,_,_=>rfl
 | (i,k) :: U,h,id,hb,hn=>by
  have h1:i < h.length:=hb (i,k) (by simp)
  simp only [List.map_cons,List.mem_cons,not_or] at hn
  simp only [app,qW,if_pos h1]
  rw [zbL U _ id (fun p hp=>by simpa using hb p (by simp [hp])) hn.2,List.getElem?_set_ne (Ne.symm hn.1)]
theorem zgh:∀ (U:List (Nat × zf)) (h:List zf) (i:Nat) (k:zf),(∀ p,p ∈ U → p.1 < h.length) → i < h.length → i ∉ U.map (·.1) → app (h.set i k) U=(app h U).set i k
 | [],_,_,_,_,_,_=>rfl
 | (j,k') :: U,h,i,k,hb,hi,hn=>by
  have h1:j < h.length:=hb (j,k') (by simp)
  simp only [List.map_cons,List.mem_cons,not_or] at hn
  simp only [app,qW,if_pos h1,if_pos (show j < (h.set i k).length by simpa using h1)]
  rw [List.set_comm _ _ hn.1]
  exact zgh U _ i k (fun p hp=>by simpa using hb p (by simp [hp])) (by simpa using hi) hn.2
theorem za8:∀ (U V:List (Nat × zf)) (h:List zf),(∀ p,p ∈ U → p.1 < h.length) → (∀ p,p ∈ V → p.1 < h.length) → (∀ i,i ∈ U.map (·.1) → i ∉ V.map (·.1)) → app (app h U) V=app (app h V) U
 | [],_,_,_,_,_=>rfl
 | (i,k) :: U,V,h,hU,hV,hd=>by
  have h1:i < h.length:=hU (i,k) (by simp)
  have h2:=ZQ V h hV
  simp only [app,qW,if_pos h1,if_pos (show i < (app h V).length by omega)]
  rw [← zgh V h i k hV h1 (hd i (by simp))]
  exact za8 U V _ (fun p hp=>by simpa using hU p (by simp [hp])) (fun p hp=>by simpa using hV p hp) fun j hj=>hd j (by simp only [List.map_cons,List.mem_cons];exact .inr hj)
theorem zah (t:List AV) (d:Option Tmp) (v:AV):(kN t d v).length=t.length:=by cases d <;> simp [kN]
theorem zev (t:List AV) {d e:Option Tmp} (u v:AV) (h:∀ x,d=some x → e ≠ some x):kN (kN t d u) e v=kN (kN t e v) d u:=by
 cases d with
 | none=>rfl
 | some d =>
  cases e with
  | none=>rfl
  | some e =>
   have:d ≠ e:=fun he=>h d rfl (by rw [he])
   simp only [kN]
   rw [List.set_comm _ _ this]
section
variable {ops:Array Oper} {rs:List Rec} {s0:St}
theorem QU {rs:List Rec} {m i:Nat} {r:Rec} (hb:Bnd rs m) (hr:rs[i]?=some r):∀ p,p ∈ r.U → p.1 < m:=fun p hp =>
 hb i p.1 (by unfold wE;rw [hr];exact List.mem_map.2 ⟨p,hp,rfl⟩)
theorem zhZ {m:Nat} (hb:Bnd rs m) {s:St} (hs:s.h.length=m) (i:Nat):(QC ops rs s i).h.length=m:=by
 unfold QC;split
 ·rename_i o r _ hr
  simp only []
  rw [ZQ _ _ fun p hp=>by rw [hs];exact QU hb hr p hp];exact hs
 ·exact hs
theorem vM {m:Nat} (hb:Bnd rs m) (hs:s0.h.length=m) (D:Nat → Bool):∀ n,(stD ops rs s0 D n).h.length=m
 | 0=>hs
 | n + 1=>by
  simp only [stD];split
  ·exact zhZ hb (vM hb hs D n) n
  ·exact vM hb hs D n
theorem Zn (D:Nat → Bool):∀ n,(stD ops rs s0 D n).t.length=s0.t.length
 | 0=>rfl
 | n + 1=>by
  simp only [stD];split
  ·unfold QC;split
   ·simp only [zah];exact Zn D n
   ·exact Zn D n
  ·exact Zn D n
theorem zih {t t':List AV} {d:Option Tmp} {v:AV} {x:Nat} (hl:t.length=t'.length) (h:d=some x ∨ t[x]?=t'[x]?):(kN t d v)[x]?=(kN t' d v)[x]?:=by
 cases d with
 | none =>
  rcases h with h | h
  ·cases h
  ·exact h
 | some d =>
  simp only [kN]
  by_cases e:d=x
  ·subst e
   rcases Nat.lt_or_ge d t.length with h1 | h1
   ·have h2:d < t'.length:=by rw [← hl];exact h1
    rw [List.getElem?_set_self h1,List.getElem?_set_self h2]
   ·have h2:t'.length ≤ d:=by rw [← hl];exact h1
    rw [List.getElem?_eq_none (by simpa using h1),List.getElem?_eq_none (by simpa using h2)]
  ·rw [List.getElem?_set_ne e,List.getElem?_set_ne e]
   rcases h with h | h
   ·exact absurd (Option.some.inj h) e
   ·exact h
theorem zgg {t:List AV} {d:Option Tmp} {v:AV} {x:Nat} (h:d ≠ some x):(kN t d v)[x]?=t[x]?:=by
 cases d with
 | none=>rfl
 | some d=>simp only [kN];rw [List.getElem?_set_ne (fun e=>h (by rw [e]))]
theorem QK {d:Nat} {D D':Nat → Bool}:∀ n,(∀ i,i < n → vD ops i=some d → D i=D' i) → (stD ops rs s0 D n).t[d]?=(stD ops rs s0 D' n).t[d]?
 | 0,_=>rfl
 | n + 1,h=>by
  have ih:=QK (d:=d) (D:=D) (D':=D') n fun i hi=>h i (by omega)
  have put:∀ s:St,vD ops n ≠ some d → (QC ops rs s n).t[d]?=s.t[d]?:=fun s hne=>by
   unfold QC;split
   ·rename_i o r ho _
    exact zgg (by simpa [vD,ho] using hne)
   ·rfl
  simp only [stD]
  by_cases hd:vD ops n=some d
  ·have:=h n (by omega) hd
   rw [this]
   split
   ·unfold QC;split
    ·rename_i o r ho _
     exact zih (by rw [Zn,Zn]) (.inl (by simpa [vD,ho] using hd))
    ·exact ih
   ·exact ih
  ·split <;> split <;> (try rw [put _ hd]) <;> (try rw [put _ hd]) <;> exact ih
theorem Yk {m id:Nat} (hb:Bnd rs m) (hs:s0.h.length=m) {D D':Nat → Bool}:∀ n,(∀ i,i < n → id ∈ wE rs i → D i=D' i) → (stD ops rs s0 D n).h[id]?=(stD ops rs s0 D' n).h[id]?
 | 0,_=>rfl
 | n + 1,h=>by
  have ih:=Yk (id:=id) hb hs (D:=D) (D':=D') n fun i hi=>h i (by omega)
  have put:∀ s:St,s.h.length=m → id ∉ wE rs n → (QC ops rs s n).h[id]?=s.h[id]?:=fun s hl hne=>by
   unfold QC;split
   ·rename_i o r _ hr
    exact zbL _ _ _ (fun p hp=>by rw [hl];exact QU hb hr p hp) (by simpa [wE,hr] using hne)
   ·rfl
  simp only [stD]
  by_cases hd:id ∈ wE rs n
  ·have:=h n (by omega) hd
   rw [this]
   split
   ·unfold QC;split
    ·rename_i o r _ hr
     refine zfc _ _ _ _ (by rw [vM hb hs,vM hb hs]) (fun p hp=>by rw [vM hb hs];exact QU hb hr p hp) (.inl ?_)
     unfold wE at hd;rw [hr] at hd;exact hd
    ·exact ih
   ·exact ih
  ·have l1:=vM (ops:=ops) hb hs D n
   have l2:=vM (ops:=ops) hb hs D' n
   split <;> split <;> (try rw [put _ l1 hd]) <;> (try rw [put _ l2 hd]) <;> exact ih
theorem zgl {m:Nat} (hb:Bnd rs m) {s:St} (hs:s.h.length=m) (i j:Nat) (hd:∀ x,vD ops i=some x → vD ops j ≠ some x) (hU:∀ x,x ∈ wE rs i → x ∉ wE rs j):QC ops rs (QC ops rs s i) j=QC ops rs (QC ops rs s j) i:=by
 cases ho:ops[i]? with
 | none=>simp [QC,ho]
 | some o =>
  cases hp:ops[j]? with
  | none=>simp [QC,hp]
  | some p =>
   cases hr:rs[i]? with
   | none=>simp [QC,hr]
   | some r =>
    cases hq:rs[j]? with
    | none=>simp [QC,hq]
    | some q =>
     simp only [QC,ho,hp,hr,hq]
     rw [zev _ _ _ (by simpa [vD,ho,hp] using hd),za8 _ _ _ (fun x hx=>by rw [hs];exact QU hb hr x hx) (fun x hx=>by rw [hs];exact QU hb hq x hx) (by simpa [wE,hr,hq] using hU)]
theorem xY {m:Nat} (hb:Bnd rs m) (hs:s0.h.length=m) {D D':Nat → Bool} {j:Nat} (hj:D j=false) (hj':D' j=true) (he:∀ i,i ≠ j → D' i=D i):∀ n,j < n →
  (∀ i,j < i → i < n → D i=true → (∀ x,vD ops j=some x → vD ops i ≠ some x) ∧ (∀ x,x ∈ wE rs j → x ∉ wE rs i)) → stD ops rs s0 D' n=QC ops rs (stD ops rs s0 D n) j
 | 0,h,_=>by omega
 | n + 1,h,hc=>by
  have below:∀ k,k ≤ j → stD ops rs s0 D' k=stD ops rs s0 D k:=by
   intro k
   induction k with
   | zero=>intro _;rfl
   | succ k ih=>intro hk;simp only [stD];rw [ih (by omega),he k (by omega)]
  by_cases e:n=j
  ·subst e
   simp only [stD,hj,hj',if_true,below n (Nat.le_refl _)];rfl
  ·have ih:=xY hb hs hj hj' he n (by omega) fun i h1 h2=>hc i h1 (by omega)
   simp only [stD,he n e]
   split
   ·rename_i hD
    rw [ih]
    obtain ⟨c1,c2⟩:=hc n (by omega) (by omega) hD
    exact zgl hb (vM hb hs D n) j n c1 c2
   ·exact ih
end
def vJ (ops:Array Oper) (j:Nat):List Nat:=match ops[j]? with
 | some o=>o.after.toList.filterMap fun e=>if Region.binds .any e then some e.on else none
 | none=>[]
def ZU (ops:Array Oper):Nat → List Nat
 | 0=>[]
 | n + 1=>let T:=ZU ops n;T ++ [(vJ ops n).foldl (fun m p=>m ||| (1 <<< p) ||| (T.getD p 0)) 0]
def ZR (ops:Array Oper):Nat → Bool
 | 0=>true
 | n + 1=>ZR ops n && (vJ ops n).all (· < n)
theorem ju (ops:Array Oper):∀ n,(ZU ops n).length=n
 | 0=>rfl
 | n + 1=>by simp [ZU,ju ops n]
theorem WN (T:List Nat) (i:Nat):∀ (l:List Nat) (m:Nat),(l.foldl (fun m p=>m ||| (1 <<< p) ||| (T.getD p 0)) m).testBit i=true → m.testBit i=true ∨ ∃ p,p ∈ l ∧ (p=i ∨ (T.getD p 0).testBit i=true)
 | [],m,h=>.inl h
 | q :: l,m,h=>by
  rcases WN T i l _ h with h1 | ⟨p,hp,h1⟩
  ·simp only [Nat.testBit_or,Bool.or_eq_true] at h1
   rcases h1 with (h1 | h1) | h1
   ·exact .inl h1
   ·refine .inr ⟨q,by simp,.inl ?_⟩
    rw [Nat.shiftLeft_eq,Nat.one_mul,Nat.testBit_two_pow] at h1
    exact of_decide_eq_true h1
   ·exact .inr ⟨q,by simp,.inr h1⟩
  ·exact .inr ⟨p,by simp [hp],h1⟩
theorem vZ {ops:Array Oper}:∀ {n:Nat},ZR ops n=true → ∀ j,j < n → ∀ p,p ∈ vJ ops j → p < j
 | 0,_,j,hj,_,_=>by omega
 | n + 1,h,j,hj,p,hp=>by
  simp only [ZR,Bool.and_eq_true] at h
  by_cases e:j=n
  ·subst e;simpa using List.all_eq_true.1 h.2 p hp
  ·exact vZ h.1 j (by omega) p hp
theorem k5 {ops:Array Oper} {D:Nat → Bool} (hD:∀ j,D j=true → ∀ p,p ∈ vJ ops j → D p=true):∀ (n j:Nat) (i:Nat),j < n → ((ZU ops n).getD j 0).testBit i=true → (∀ p,p ∈ vJ ops j → D p=true) → D i=true
 | 0,j,i,hj,_,_=>by omega
 | n + 1,j,i,hj,hb,hp=>by
  by_cases e:j=n
  ·subst e
   simp only [ZU] at hb
   rw [List.getD_eq_getElem?_getD,List.getElem?_append_right (by rw [ju];exact Nat.le_refl _),ju] at hb
   simp only [Nat.sub_self,List.getElem?_cons_zero,Option.getD_some] at hb
   rcases WN _ _ _ _ hb with h1 | ⟨p,hpm,h1⟩
   ·simp at h1
   ·rcases h1 with rfl | h1
    ·exact hp p hpm
    ·have hlt:p < j:=by
      rcases Nat.lt_or_ge p j with h2 | h2
      ·exact h2
      ·rw [List.getD_eq_getElem?_getD,List.getElem?_eq_none (by rw [ju];exact h2)] at h1
       simp at h1
     exact k5 hD j p i hlt h1 (hD p (hp p hpm))
  ·simp only [ZU] at hb
   rw [List.getD_eq_getElem?_getD,List.getElem?_append_left (by rw [ju];omega),← List.getD_eq_getElem?_getD] at hb
   exact k5 hD n j i (by omega) hb hp
def jG (ops:Array Oper) (i:Nat):List Tmp:=match ops[i]? with
 | some o=>o.looksAt ops
 | none=>[]
def qu (ops:Array Oper) (i j:Nat):Bool:=
 (match vD ops i with
  | some d=>!(jG ops j).contains d && !(vD ops j == some d)
  | none=>true) &&
 (match vD ops j with
  | some d=>!(jG ops i).contains d
  | none=>true)
def kC (r q:Rec):Bool:=r.U.all (fun p=>!q.R.contains p.1 && !(q.U.map (·.1)).contains p.1) && q.U.all (fun p=>!r.R.contains p.1)
def QG (f:Nat → Nat → Bool) (n:Nat):Bool:=(List.range n).all fun j=>(List.range j).all fun i=>f i j
theorem vT {f:Nat → Nat → Bool} {n:Nat} (h:QG f n=true) {i j:Nat} (hij:i < j) (hj:j < n):f i j=true:=
 List.all_eq_true.1 (List.all_eq_true.1 h j (List.mem_range.2 hj)) i (List.mem_range.2 hij)
def qV (ops:Array Oper):Bool:=ZR ops ops.size && (let T:=ZU ops ops.size;QG (fun i j=>(T.getD j 0).testBit i || qu ops i j) ops.size)
def recAt (rs:List Rec) (i:Nat):Rec:=rs.getD i ⟨.und,[],[]⟩
def Z9 (ops:Array Oper) (rs:List Rec):Bool:=rs.all (fun r=>r.U.isEmpty) || (let T:=ZU ops ops.size;QG (fun i j=>kC (recAt rs i) (recAt rs j) || (T.getD j 0).testBit i) ops.size)
theorem Jd {ops:Array Oper} {rs:List Rec} (h:Z9 ops rs=true) {i j:Nat} (hij:i < j) (hj:j < ops.size):kC (recAt rs i) (recAt rs j)=true ∨ ((ZU ops ops.size).getD j 0).testBit i=true:=by
 simp only [Z9,Bool.or_eq_true] at h
 rcases h with h | h
 ·left
  have hU:∀ k,(recAt rs k).U=[]:=fun k=>by
   unfold recAt
   rw [List.getD_eq_getElem?_getD]
   cases hk:rs[k]? with
   | none=>rfl
   | some r =>
    have:=List.all_eq_true.1 h r (List.mem_of_getElem? hk)
    simpa using this
  simp only [kC,hU]
  rfl
 ·have:=vT h hij hj
  simpa using this
end Go.Ev
namespace Go.Ev
open Go.RowKit
variable [qo]
def runT (E:Env) (C:FuncId → List AV → List zf → Option AV) (ops:Array Oper) (b m:Nat):Nat → Nat → St → Option (List Rec × St)
 | 0,_,s=>some ([],s)
 | k + 1,i,s=>match ops[i]? with
  | none=>none
  | some o=>match act E C ops o s (b + i) with
   | none=>none
   | some (v,U)=>match s.h[b + i]? with
    | some .zy=>if U.all (fun p=>decide (p.1 < m)) then
      match runT E C ops b m k (i + 1) ⟨kN s.t o.dst v,app s.h U⟩ with
      | some (rs,s')=>some (⟨v,U,(b + i) :: vt s o⟩ :: rs,s')
      | none=>none
     else none
    | _=>none
structure zgy (E:Env) (C:FuncId → List AV → List zf → Option AV) (ops:Array Oper) (b m:Nat) (s:St) (i:Nat) (o:Oper) (r:Rec):Prop where
 oper:ops[i]?=some o
 acts:act E C ops o s (b + i)=some (r.v,r.U)
 fresh:s.h[b + i]?=some .zy
 bnd:∀ p,p ∈ r.U → p.1 < m
 reads:r.R=(b + i) :: vt s o
theorem KL {E:Env} {C:FuncId → List AV → List zf → Option AV} {ops:Array Oper} {b m:Nat} {s0:St} {all:List Rec}:∀ (k i:Nat) (s:St) (pre suf:List Rec) (s':St),runT E C ops b m k i s=some (suf,s') → all=pre ++ suf → pre.length=i → s=stD ops all s0 (fun _=>true) i →
  s'=stD ops all s0 (fun _=>true) (i + k) ∧ all.length=i + k ∧ ∀ j,i ≤ j → j < i + k → ∃ o r,all[j]?=some r ∧ zgy E C ops b m (stD ops all s0 (fun _=>true) j) j o r
 | 0,i,s,pre,suf,s',h,ha,hp,hs=>by
  simp only [runT,Option.some.injEq,Prod.mk.injEq] at h
  obtain ⟨rfl,rfl⟩:=h
  exact ⟨hs,by simp [ha,hp],fun j h1 h2=>by omega⟩
 | k + 1,i,s,pre,suf,s',h,ha,hp,hs=>by
  unfold runT at h
  split at h
  ·cases h
  ·rename_i o ho
   split at h
   ·cases h
   ·rename_i v U hact
    split at h
    ·rename_i hfr
     split at h
     ·rename_i hU
      split at h
      ·rename_i rs s1 hrec
       cases h
       have hr:all[i]?=some ⟨v,U,(b + i) :: vt s o⟩:=by rw [ha,List.getElem?_append_right (by omega),hp];simp
       have hnext:(⟨kN s.t o.dst v,app s.h U⟩:St)=stD ops all s0 (fun _=>true) (i + 1):=by
        simp only [stD,if_true,QC,ho,hr,← hs]
       obtain ⟨h1,h2,h3⟩:=KL k (i + 1) _ (pre ++ [⟨v,U,(b + i) :: vt s o⟩]) rs s' hrec (by rw [ha];simp) (by simp [hp]) hnext
       refine ⟨by rw [h1,show i + 1 + k=i + (k + 1) by omega],by omega,fun j j1 j2=>?_⟩
       by_cases e:j=i
       ·subst e
        refine ⟨o,_,hr,ho,?_,?_,?_,?_⟩
        ·rw [← hs];exact hact
        ·rw [← hs];exact hfr
        ·intro p hp';simpa using List.all_eq_true.1 hU p hp'
        ·rw [← hs]
       ·exact h3 j (by omega) (by omega)
      ·cases h
     ·cases h
    ·cases h
theorem Sim.pad {X:Ent} {t:List AV} {h h':List zf} {a:Act} {w:World} (hs:Sim X ⟨t,h⟩ a w) (hq:∀ i:Nat,h'[i]?=h[i]? ∨ ((h[i]?=none ∨ h[i]?=some zf.zy) ∧ (h'[i]?=none ∨ h'[i]?=some zf.zy))):Sim X ⟨t,h'⟩ a w:=by
 obtain ⟨N,ρ,S⟩:=hs
 have hborn:born h'=born h:=funext fun i=>by
  unfold born
  rcases hq i with e | ⟨e1 | e1,e2 | e2⟩
  ·rw [e]
  ·rw [e1,e2]
  ·rw [e1,e2]
  ·rw [e1,e2]
  ·rw [e1,e2]
 have hget:∀ (i:Nat) (k:zf),h'[i]?=some k → h[i]?=some k ∨ k = .zy:=fun i k hk=>by
  rcases hq i with e | ⟨_,e2 | e2⟩
  ·exact .inl (e ▸ hk)
  ·rw [e2] at hk;cases hk
  ·rw [e2] at hk;cases hk;exact .inr rfl
 have hown:∀ i,owns h' ρ i → owns h ρ i:=fun i ⟨⟨k,hk,h1,h2⟩,hp⟩=>⟨⟨k,(hget i k hk).resolve_right h2,h1,h2⟩,hp⟩
 refine ⟨N,ρ,⟨S.heap.lt,fun i j hi hj=>S.heap.inj i j (hown i hi) (hown j hj),fun i hi=>S.heap.apart i (hown i hi),fun i k hk=>?_,fun i cs hk=>?_,S.heap.glob⟩,S.slots,?_,?_,S.defers⟩
 ·rcases hget i k hk with h1 | rfl
  ·exact S.heap.own i k h1
  ·trivial
 ·rcases hget i _ hk with h1 | h1
  ·show AV.sc.scAll (born h') cs.avs=true
   rw [hborn];exact S.heap.scope i cs h1
  ·subst h1;rfl
 ·show AV.sc.scAll (born h') t=true
  rw [hborn];exact S.sc
 ·have K:=S.kept
  refine ⟨K.os,K.tape,K.output,K.size,fun i hi=>⟨?_,(K.rho i hi).2⟩,K.stay,K.from_,K.rest,fun i hi=>K.new i (hown i hi)⟩
  show born h' i=true
  rw [hborn];exact (K.rho i hi).1
theorem Sim.drew {X:Ent} {s:St} {a:Act} {w:World} (hs:Sim X s a w) (k:Nat):Sim X s a { w with drawn:=k }:=by
 obtain ⟨N,ρ,S⟩:=hs
 have hst:∀ b,N b → N b ∧ ({ w with drawn:=k }:World).heap[b]?=w.heap[b]?:=fun b hb=>⟨hb,rfl⟩
 have hm:Made w { w with drawn:=k }:=⟨rfl,rfl,rfl,Nat.le_refl _,fun _ _=>rfl⟩
 obtain ⟨H,K⟩:=S.heap.made hm
 exact ⟨N,ρ,H,S.slots.mono S.sc hst fun _ _=>rfl,S.sc,S.kept.trans K,S.defers⟩
def Wc:zf → Bool
 | .zy=>true
 | _=>false
def yU:List zf → List zf
 | []=>[]
 | k :: h=>match yU h with
  | []=>if Wc k then [] else [k]
  | l=>k :: l
theorem Zi:∀ (h:List zf) (i:Nat),(yU h)[i]?=h[i]? ∨ ((h[i]?=none ∨ h[i]?=some zf.zy) ∧ ((yU h)[i]?=none ∨ (yU h)[i]?=some zf.zy))
 | [],_=>.inl rfl
 | k :: h,i=>by
  unfold yU
  split
  ·rename_i he
   have ih:∀ j:Nat,(([]:List zf))[j]?=h[j]? ∨ ((h[j]?=none ∨ h[j]?=some zf.zy)):=fun j=>by
    rcases Zi h j with h1 | h1
    ·rw [he] at h1;exact .inl h1
    ·exact .inr h1.1
   split
   ·rename_i hk
    cases k <;> simp [Wc] at hk
    cases i with
    | zero=>right;simp
    | succ i =>
     rcases ih i with h1 | h1
     ·left;simpa using h1
     ·right;exact ⟨by simpa using h1,by simp⟩
   ·cases i with
    | zero=>left;simp
    | succ i =>
     rcases ih i with h1 | h1
     ·left;simpa using h1
     ·right;exact ⟨by simpa using h1,by simp⟩
  ·cases i with
   | zero=>left;simp
   | succ i=>simpa using Zi h i
def K0 (D:Nat → Bool):Nat → Nat
 | 0=>0
 | n + 1=>K0 D n + if D n then 0 else 1
theorem Zj {D:Nat → Bool}:∀ {n:Nat},K0 D n=0 → ∀ i,i < n → D i=true
 | 0,_,i,hi=>by omega
 | n + 1,h,i,hi=>by
  simp only [K0] at h
  by_cases e:i=n
  ·subst e
   cases hd:D i
   ·rw [hd] at h;simp at h
   ·rfl
  ·exact Zj (D:=D) (n:=n) (by omega) i (by omega)
theorem QN {D D':Nat → Bool} {j:Nat} (hj:D j=false) (hj':D' j=true) (he:∀ i,i ≠ j → D' i=D i):∀ n,(n ≤ j → K0 D' n=K0 D n) ∧ (j < n → K0 D' n + 1=K0 D n)
 | 0=>⟨fun _=>rfl,fun h=>by omega⟩
 | n + 1=>by
  obtain ⟨h1,h2⟩:=QN hj hj' he n
  refine ⟨fun hn=>?_,fun hn=>?_⟩
  ·simp only [K0];rw [h1 (by omega),he n (by omega)]
  ·by_cases e:n=j
   ·subst e
    simp only [K0,hj,hj'];rw [h1 (Nat.le_refl _)];simp
   ·simp only [K0];rw [he n e]
    have:=h2 (by omega);omega
theorem zdd {P:Program} {E:Env} (T:zE P E) {C:FuncId → List AV → List zf → Option AV} (hC:Kg P C) {ops:Array Oper} {rs:List Rec} {s0:St} {b:Nat} {Q:Exit → Act → World → Prop} {X:Ent}
  (hsl:qV ops=true) (hmem:Z9 ops rs=true) (hlen:rs.length=ops.size)
  (htext:∀ j,j < ops.size → ∃ o r,rs[j]?=some r ∧ zgy E C ops b s0.h.length (stD ops rs s0 (fun _=>true) j) j o r)
  (hQ:∀ a w,Sim X (stD ops rs s0 (fun _=>true) ops.size) a w → Q .normal a w) :
  ∀ (fuel:Nat) (listed:Array Bool) (a:Act) (w:World),listed.size=ops.size → K0 (fun i=>listed.getD i false) ops.size ≤ fuel →
   (∀ j,listed.getD j false=true → ∀ p,p ∈ vJ ops j → listed.getD p false=true) →
   Sim X (stD ops rs s0 (fun i=>listed.getD i false) ops.size) a w → wpAny P .any ops Q fuel listed a w:=by
 simp only [qV,Bool.and_eq_true] at hsl
 obtain ⟨hpr,hsl⟩:=hsl
 have hb:Bnd rs s0.h.length:=fun i id hi=>by
  unfold wE at hi
  split at hi
  ·rename_i r hr
   obtain ⟨p,hp,rfl⟩:=List.mem_map.1 hi
   have hlt:i < ops.size:=by rw [← hlen];exact (List.getElem?_eq_some_iff.1 hr).1
   obtain ⟨o,r',hr',ht⟩:=htext i hlt
   rw [hr] at hr';cases hr'
   exact ht.bnd p hp
  ·cases hi
 have slots:∀ i j,i < j → j < ops.size → ((ZU ops ops.size).getD j 0).testBit i=true ∨ qu ops i j=true:=fun i j hij hj=>by
  have:=vT hsl hij hj
  simpa using this
 have mems:∀ i j,i < j → j < ops.size → kC (recAt rs i) (recAt rs j)=true ∨ ((ZU ops ops.size).getD j 0).testBit i=true:=fun i j hij hj=>Jd hmem hij hj
 have recAt_of:∀ {i:Nat} {r:Rec},rs[i]?=some r → recAt rs i=r:=fun h=>by simp [recAt,h]
 have allOf:∀ (listed:Array Bool),(∀ i,i < ops.size → listed.getD i false=true) → stD ops rs s0 (fun i=>listed.getD i false) ops.size=stD ops rs s0 (fun _=>true) ops.size:=fun listed hall=>by
  have:∀ n,n ≤ ops.size → stD ops rs s0 (fun i=>listed.getD i false) n=stD ops rs s0 (fun _=>true) n:=by
   intro n
   induction n with
   | zero=>intro _;rfl
   | succ n ih=>intro hn;simp only [stD];rw [ih (by omega)];simp only [hall n (by omega)]
  exact this _ (Nat.le_refl _)
 have readyAll:∀ (listed:Array Bool),listed.size=ops.size → Region.ready .any ops listed=[] → ∀ i,i < ops.size → listed.getD i false=true:=fun listed hsz hr i=>by
  induction i using Nat.strongRecOn with
  | _ i ih =>
   intro hi
   cases hd:listed.getD i false with
   | true=>rfl
   | false =>
    exfalso
    have hmem:i ∈ Region.ready .any ops listed:=by
     rw [mem_ready]
     have hi':i < listed.size:=by omega
     have ho:ops[i]?=some ops[i]:=Array.getElem?_eq_getElem hi
     refine ⟨?_,ops[i],ho,fun e he hbd=>?_⟩
     ·simp only [Array.getD_eq_getD_getElem?,Array.getElem?_eq_getElem hi',Option.getD_some] at hd ⊢;exact hd
     ·have hp:e.on ∈ vJ ops i:=by
       unfold vJ;rw [ho]
       exact List.mem_filterMap.2 ⟨e,by simpa using he,by rw [if_pos hbd]⟩
      have hlt:=vZ hpr i hi _ hp
      exact ih e.on hlt (by omega)
    rw [hr] at hmem;cases hmem
 intro fuel
 induction fuel with
 | zero =>
  intro listed a w hsz hcnt hdown hs
  have hall:=Zj (Nat.le_zero.1 hcnt)
  refine ⟨?_,hQ a w (by rw [← allOf listed hall];exact hs)⟩
  cases hr:Region.ready .any ops listed with
  | nil=>rfl
  | cons i l =>
   have hm:i ∈ Region.ready .any ops listed:=by rw [hr];simp
   obtain ⟨h0,o,ho,_⟩:=mem_ready.1 hm
   have hi:i < ops.size:=(Array.getElem?_eq_some_iff.1 ho).1
   have h1:=hall i hi
   simp only [Array.getD_eq_getD_getElem?,Array.getElem?_eq_getElem (show i < listed.size by omega),Option.getD_some] at h0 h1
   rw [h0] at h1;cases h1
 | succ fuel ih =>
  intro listed a w hsz hcnt hdown hs
  refine ⟨fun hr=>hQ a w (by rw [← allOf listed (readyAll listed hsz hr)];exact hs),fun j hj=>?_⟩
  obtain ⟨h0,o,ho,hpre⟩:=mem_ready.1 hj
  have hjl:j < ops.size:=(Array.getElem?_eq_some_iff.1 ho).1
  have hD:listed.getD j false=false:=by
   simp only [Array.getD_eq_getD_getElem?,Array.getElem?_eq_getElem (show j < listed.size by omega),Option.getD_some] at h0 ⊢;exact h0
  have hpreds:∀ p,p ∈ vJ ops j → listed.getD p false=true:=fun p hp=>by
   unfold vJ at hp;rw [ho] at hp
   obtain ⟨e,he,heq⟩:=List.mem_filterMap.1 hp
   split at heq
   ·rename_i hbd;cases heq;exact hpre e (by simpa using he) hbd
   ·cases heq
  obtain ⟨o',r,hr,ht⟩:=htext j hjl
  have:=ht.oper
  rw [ho] at this;cases this
  have agree:∀ i,i < ops.size → (i < j → qu ops i j=false ∨ kC (recAt rs i) (recAt rs j)=false → listed.getD i false=true) ∧ (j < i → qu ops j i=false ∨ kC (recAt rs j) (recAt rs i)=false → listed.getD i false=false):=fun i hi=>by
   refine ⟨fun hij hc=>?_,fun hij hc=>?_⟩
   ·have hanc:((ZU ops ops.size).getD j 0).testBit i=true:=by
     rcases hc with hc | hc
     ·rcases slots i j hij hjl with h1 | h1
      ·exact h1
      ·rw [hc] at h1;cases h1
     ·rcases mems i j hij hjl with h1 | h1
      ·rw [hc] at h1;cases h1
      ·exact h1
    exact k5 (D:=fun i=>listed.getD i false) hdown ops.size j i hjl hanc hpreds
   ·have hanc:((ZU ops ops.size).getD i 0).testBit j=true:=by
     rcases hc with hc | hc
     ·rcases slots j i hij hi with h1 | h1
      ·exact h1
      ·rw [hc] at h1;cases h1
     ·rcases mems j i hij hi with h1 | h1
      ·rw [hc] at h1;cases h1
      ·exact h1
    cases hdi:listed.getD i false with
    | false=>rfl
    | true =>
     have:=k5 (D:=fun i=>listed.getD i false) hdown ops.size i j hi hanc (fun p hp=>hdown i hdi p hp)
     have h9:listed.getD j false=true:=this
     rw [hD] at h9;cases h9
  have pre:∀ n,j ≤ n → stD ops rs s0 (fun i=>decide (i < j)) n=stD ops rs s0 (fun _=>true) j:=by
   have below:∀ n,n ≤ j → stD ops rs s0 (fun i=>decide (i < j)) n=stD ops rs s0 (fun _=>true) n:=by
    intro n
    induction n with
    | zero=>intro _;rfl
    | succ n ihn=>intro hn;simp only [stD];rw [ihn (by omega)];simp [show n < j by omega]
   intro n
   induction n with
   | zero =>
    intro hn
    have h9:=below 0 (Nat.zero_le _)
    have e0:j=0:=by omega
    rw [h9,e0]
   | succ n ihn =>
    intro hn
    by_cases e:j=n + 1
    ·rw [← e];exact below j (Nat.le_refl _)
    ·simp only [stD];simp [show ¬ n < j by omega];exact ihn (by omega)
  have hrj:=recAt_of hr
  have tslot:∀ d,d ∈ o.looksAt ops → (stD ops rs s0 (fun i=>listed.getD i false) ops.size).t[d]?=(stD ops rs s0 (fun _=>true) j).t[d]?:=fun d hd=>by
   rw [← pre ops.size (Nat.le_of_lt hjl)]
   refine QK _ fun i hi hdst=>?_
   have hlook:(jG ops j).contains d=true:=by simp only [jG,ho];simpa using hd
   rcases Nat.lt_trichotomy i j with h1 | h1 | h1
   ·simp only [h1,decide_true]
    exact (agree i hi).1 h1 (.inl (by simp only [qu,hdst,hlook];simp))
   ·subst h1;simp only [hD];simp
   ·have:=(agree i hi).2 h1 (.inl (by simp only [qu,hdst,hlook];simp))
    simp only [this];simp;omega
  have tblk:∀ id,id ∈ (b + j) :: vt (stD ops rs s0 (fun _=>true) j) o → (stD ops rs s0 (fun i=>listed.getD i false) ops.size).h[id]?=(stD ops rs s0 (fun _=>true) j).h[id]?:=fun id hid=>by
   rw [← pre ops.size (Nat.le_of_lt hjl)]
   refine Yk hb rfl _ fun i hi hdom=>?_
   rw [← ht.reads] at hid
   have key:∀ (hij:i ≠ j),∃ q,rs[i]?=some q ∧ ∃ p,p ∈ q.U ∧ p.1=id:=fun hij=>by
    unfold wE at hdom
    split at hdom
    ·rename_i q hq
     obtain ⟨p,hp,rfl⟩:=List.mem_map.1 hdom
     exact ⟨q,hq,p,hp,rfl⟩
    ·cases hdom
   rcases Nat.lt_trichotomy i j with h1 | h1 | h1
   ·simp only [h1,decide_true]
    obtain ⟨q,hq,p,hp,rfl⟩:=key (by omega)
    refine (agree i hi).1 h1 (.inr ?_)
    rw [recAt_of hq,hrj]
    simp only [kC,Bool.and_eq_false_iff,List.all_eq_false]
    exact .inl ⟨p,hp,by simp [hid]⟩
   ·subst h1;simp only [hD];simp
   ·obtain ⟨q,hq,p,hp,rfl⟩:=key (by omega)
    have:=(agree i hi).2 h1 (.inr (by
     rw [recAt_of hq,hrj]
     simp only [kC,Bool.and_eq_false_iff,List.all_eq_false]
     exact .inr ⟨p,hp,by simp [hid]⟩))
    simp only [this];simp;omega
  have hact:act E C ops o (stD ops rs s0 (fun i=>listed.getD i false) ops.size) (b + j)=some (r.v,r.U):=by
   rw [← ht.acts]
   exact zbv E C ops o (b + j) (by rw [vM hb rfl,vM hb rfl]) tslot fun id hid=>tblk id (List.mem_cons_of_mem _ hid)
  have hfr:kA (stD ops rs s0 (fun i=>listed.getD i false) ops.size).h (b + j):=.inr ((tblk (b + j) (by simp)).trans ht.fresh)
  refine zbg T hC ho hfr hact hs fun a' w' hs'=>?_
  have hset:∀ i,i ≠ j → (listed.setIfInBounds j true).getD i false=listed.getD i false:=fun i hi=>getD_set_ne false (Ne.symm hi)
  have hsetj:(listed.setIfInBounds j true).getD j false=true:=by simp [show j < listed.size by omega]
  refine ih (listed.setIfInBounds j true) a' w' (by simpa using hsz) ?_ ?_ ?_
  ·have:=(QN (D:=fun i=>listed.getD i false) (D':=fun i=>(listed.setIfInBounds j true).getD i false) hD hsetj hset ops.size).2 hjl
   omega
  ·intro k hk p hp
   by_cases e:k=j
   ·subst e
    exact getD_set_true (hpreds p hp)
   ·rw [hset k e] at hk
    exact getD_set_true (hdown k hk p hp)
  ·rw [xY (D:=fun i=>listed.getD i false) hb rfl hD hsetj hset ops.size hjl]
   ·unfold QC;rw [ho,hr];exact hs'
   ·intro i h1 h2 hDi
    have hDi:listed.getD i false=true:=hDi
    have hno:=(agree i h2).2 h1
    refine ⟨fun x hx hxi=>?_,fun x hx hxi=>?_⟩
    ·have:=hno (.inl (by simp only [qu,hx,hxi];simp))
     rw [hDi] at this;cases this
    ·unfold wE at hx hxi
     rw [hr] at hx
     split at hxi
     ·rename_i q hq
      obtain ⟨p,hp,rfl⟩:=List.mem_map.1 hx
      have:=hno (.inr (by
       rw [recAt_of hq,hrj]
       simp only [kC,Bool.and_eq_false_iff,List.all_eq_false]
       exact .inl ⟨p,hp,by simp;intro _;simpa using hxi⟩))
      rw [hDi] at this;cases this
     ·cases hxi
def drawn (E:Env) (C:FuncId → List AV → List zf → Option AV) (ops:Array Oper) (s:St):Option St:=
 match runT E C ops s.h.length (s.h ++ List.replicate ops.size zf.zy).length ops.size 0 ⟨s.t,s.h ++ List.replicate ops.size zf.zy⟩ with
 | some (rs,s1)=>if Z9 ops rs then some ⟨s1.t,yU s1.h⟩ else none
 | none=>none
theorem Run.drawn {P:Program} {E:Env} (T:zE P E) {C:FuncId → List AV → List zf → Option AV} (hC:Kg P C) {n:Nat} {id:Nat} {ops:Array Oper} {s s':St} {Q:Exit → St → Prop} (hsl:qV ops=true) (hd:drawn E C ops s=some s') (h:Q .normal s'):Run P n (.region id ops true) Q s:=fun X a w hX hs=>by
 unfold Ev.drawn at hd
 split at hd
 ·rename_i rs s1 hrun
  split at hd
  ·rename_i hmem
   cases hd
   have hs0:Sim X ⟨s.t,s.h ++ List.replicate ops.size zf.zy⟩ a w:=Sim.pad (t:=s.t) (h:=s.h) hs fun i=>by
    rcases Nat.lt_or_ge i s.h.length with hi | hi
    ·left;rw [List.getElem?_append_left hi]
    ·right
     refine ⟨.inl (List.getElem?_eq_none hi),?_⟩
     rw [List.getElem?_append_right hi,List.getElem?_replicate]
     split
     ·exact .inr rfl
     ·exact .inl rfl
   obtain ⟨h1,h2,h3⟩:=KL (s0:=⟨s.t,s.h ++ List.replicate ops.size zf.zy⟩) (all:=rs) ops.size 0 _ [] rs s1 hrun rfl rfl rfl
   simp only [Nat.zero_add] at h1 h2 h3
   refine wp_region_any T.mixed ?_
   refine zdd (s0:=⟨s.t,s.h ++ List.replicate ops.size zf.zy⟩) (b:=s.h.length) T hC hsl hmem h2 (fun j hj=>h3 j (Nat.zero_le _) hj) (X:=X) (fun a' w' hs'=>?_) ops.size _ a _ (by simp) ?_ ?_ ?_
   ·refine ⟨⟨s1.t,yU s1.h⟩,?_,h⟩
    rw [← h1] at hs'
    exact Sim.pad (t:=s1.t) (h:=s1.h) hs' (Zi s1.h)
   ·have:∀ (D:Nat → Bool) n,K0 D n ≤ n:=fun D n=>by
     induction n with
     | zero=>exact Nat.le_refl _
     | succ n ih=>simp only [K0];split <;> omega
    exact this _ _
   ·intro j hj
    have hf:(Array.replicate ops.size false).getD j false=false:=by
     simp only [Array.getD_eq_getD_getElem?,Array.getElem?_replicate];split <;> rfl
    rw [hf] at hj;cases hj
   ·have:∀ n,stD ops rs ⟨s.t,s.h ++ List.replicate ops.size zf.zy⟩ (fun i=>(Array.replicate ops.size false).getD i false) n=⟨s.t,s.h ++ List.replicate ops.size zf.zy⟩:=fun n=>by
     induction n with
     | zero=>rfl
     | succ n ih =>
      have hf:(Array.replicate ops.size false).getD n false=false:=by
       simp only [Array.getD_eq_getD_getElem?,Array.getElem?_replicate];split <;> rfl
      simp only [stD,hf];exact ih
    rw [this]
    exact hs0.drew _
  ·cases hd
 ·cases hd
end Go.Ev
