/-  The evaluator, first half: values, blocks, operations, and that they are sound. Over any program. -/
import Derived.WalkKit
import Derived.Handy
import Derived.Laws.StructEq
import Derived.Laws.Cover3
import Derived.Laws.Pointers
import Derived.Deep.AppendSrc
import Derived.Deep.Upon
set_option linter.all false
set_option maxRecDepth 100000
set_option maxHeartbeats 8000000
namespace Go.Ev
open Go.RowKit
inductive CV where
 | int (k:IntKind) (n:Int)
 | bool (b:Bool)
 | str (s:ByteArray)
 | nl
 | lst (sz:Nat) (x:Bool) (xs:List (List CV))
 | fn (f:FuncId) (caps:List CV)
 | nfn
 | nptr
 | nif
 | nmp
 | pt (cs:List CV)
inductive AV where
 | c (v:CV)
 | agg (vs:List AV)
 | tup (vs:List AV)
 | ptr (id off:Nat)
 | mp (id:Nat)
 | sl (id off len:Nat)
 | er (id j i:Nat)
 | rd (cs:List CV)
 | es (id j i n:Nat)
 | ifc (t:TypeId) (v:AV)
 | fn (f:FuncId) (caps:List AV)
 | und
 | dead
inductive zf where
 | box (cs:List AV)
 | rows (sz:Nat) (e:TypeId) (xs:List (List CV))
 | mp (es:List (CV × AV × Nat)) (clk:Nat)
 | vec (sz:Nat) (e:TypeId) (xs:List (List AV))
 | gone
 | zy
def JD (g:AV → AV) (es:List (CV × AV × Nat)):List (CV × AV × Nat):=es.map fun e=>(e.1,g e.2.1,e.2.2)
def zf.avs:zf → List AV
 | .box cs=>cs
 | .mp es _=>es.map fun e=>e.2.1
 | .vec _ _ xs=>xs.flatten
 | _=>[]
def born (h:List zf) (i:Nat):Bool:=match h[i]? with
 | some .zy=>false
 | some _=>true
 | none=>false
def AV.sc (q:Nat → Bool):AV → Bool
 | .c _=>true
 | .agg vs=>scAll q vs
 | .tup vs=>scAll q vs
 | .ptr id _=>q id
 | .mp id=>q id
 | .sl id _ _=>q id
 | .er id _ _=>q id
 | .es id _ _ _=>q id
 | .ifc _ v=>AV.sc q v
 | .rd _=>true
 | .fn _ caps=>scAll q caps
 | .und=>true
 | .dead=>true
where
 scAll (q:Nat → Bool):List AV → Bool
  | []=>true
  | v :: vs=>AV.sc q v && scAll q vs
structure Pl where
 b:Nat
 base:Nat
 size:Nat
 sz:Nat
 ph:Bool
instance:Inhabited Pl:=⟨⟨0,0,0,0,true⟩⟩
inductive kX (w:World) (N:Nat → Prop):CV → Value → Prop
 | int (k:IntKind) (n:Int):kX w N (.int k n) (.int k n)
 | bool (b:Bool):kX w N (.bool b) (.bool b)
 | str (s:ByteArray):kX w N (.str s) (.string s)
 | nl:kX w N .nl (.slice none 0 0)
 | nfn:kX w N .nfn .nilFunc
 | nptr:kX w N .nptr (.pointer none)
 | nif:kX w N .nif .nilIface
 | nmp:kX w N .nmp (.map none)
 | fn (f:FuncId) (cs:List CV) (vs:List Value) (hl:cs.length=vs.length)
   (h:∀ (i:Nat) (a:i < cs.length) (b:i < vs.length),kX w N cs[i] vs[i]):kX w N (.fn f cs) (.func (.func f) #[] vs.toArray)
 | pt (cs:List CV) (b o:Nat) (V:Nat → Value) (hN:N b) (hcell:∀ i,i < cs.length → w.cell? ⟨b,o + i,none⟩=some (V i))
   (hrep:∀ (i:Nat) (a:i < cs.length),kX w N cs[i] (V i)):kX w N (.pt cs) (.pointer (some ⟨b,o,none⟩))
 | lst (sz:Nat) (x:Bool) (xs:List (List CV)) (A:Option Addr) (c:Nat) (V:Nat → Nat → Value)
   (hx:x=true → c=xs.length) (hc:xs.length ≤ c) (hm:c ≤ 9223372036854775807) (hsz:∀ e,e ∈ xs → e.length=sz)
   (hcell:∀ j i,j < xs.length → i < sz → ∃ b o,A=some ⟨b,o,none⟩ ∧ N b ∧ w.cell? ⟨b,o + (j * sz + i),none⟩=some (V j i))
   (hrep:∀ (j i:Nat) (hj:j < xs.length) (hi:i < (xs[j]).length),kX w N (xs[j])[i] (V j i)):kX w N (.lst sz x xs) (.slice A xs.length c)
inductive zo (w:World) (N:Nat → Prop) (ρ:Nat → Pl):AV → Value → Prop
 | c {v:CV} {x:Value} (h:kX w N v x):zo w N ρ (.c v) x
 | agg (us:List AV) (vs:List Value) (hl:us.length=vs.length)
   (h:∀ (i:Nat) (a:i < us.length) (b:i < vs.length),zo w N ρ us[i] vs[i]):zo w N ρ (.agg us) (.agg vs.toArray)
 | tup (us:List AV) (vs:List Value) (hl:us.length=vs.length)
   (h:∀ (i:Nat) (a:i < us.length) (b:i < vs.length),zo w N ρ us[i] vs[i]):zo w N ρ (.tup us) (.tuple vs.toArray)
 | ptr (id off:Nat):zo w N ρ (.ptr id off) (.pointer (some ⟨(ρ id).b,(ρ id).base + off,none⟩))
 | mp (id:Nat):zo w N ρ (.mp id) (.map (some (ρ id).b))
 | sn (id:Nat) (hp:(ρ id).ph=true):zo w N ρ (.sl id 0 0) (.slice none 0 0)
 | sl (id off len cap o:Nat) (hp:(ρ id).ph=false) (ho:cap ≠ 0 → o=(ρ id).base + off * (ρ id).sz) (h1:len ≤ cap) (h2:(ρ id).base + (off + cap) * (ρ id).sz ≤ (ρ id).size) (hm:cap ≤ 9223372036854775807) :
   zo w N ρ (.sl id off len) (.slice (some ⟨(ρ id).b,o,none⟩) len cap)
 | er (id j i:Nat):zo w N ρ (.er id j i) (.pointer (some ⟨(ρ id).b,(ρ id).base + (j * (ρ id).sz + i),none⟩))
 | es (id j i n cap:Nat) (hph:(ρ id).ph=false) (h1:n ≤ cap) (hm:cap ≤ 9223372036854775807):zo w N ρ (.es id j i n) (.slice (some ⟨(ρ id).b,(ρ id).base + (j * (ρ id).sz + i),none⟩) n cap)
 | ifc (t:TypeId) (v:AV) (x:Value) (h:zo w N ρ v x):zo w N ρ (.ifc t v) (.iface t x)
 | rd (cs:List CV) (b o:Nat) (hN:N b) (h:∀ (i:Nat) (a:i < cs.length),∃ x,w.cell? ⟨b,o + i,none⟩=some x ∧ kX w N cs[i] x) :
   zo w N ρ (.rd cs) (.pointer (some ⟨b,o,none⟩))
 | fn (f:FuncId) (us:List AV) (vs:List Value) (hl:us.length=vs.length)
   (h:∀ (i:Nat) (a:i < us.length) (b:i < vs.length),zo w N ρ us[i] vs[i]):zo w N ρ (.fn f us) (.func (.func f) #[] vs.toArray)
 | und:zo w N ρ .und undef
 | dead (x:Value):zo w N ρ .dead x
class qo where
 glob:Nat → Option (List CV)
 ints:List Nat:=[]
theorem zas {g:AV → AV}:∀ {es:List (CV × AV × Nat)},(∀ v,v ∈ es.map (fun e=>e.2.1) → g v=v) → JD g es=es
 | [],_=>rfl
 | (k,v,b) :: es,h=>by
  show (k,g v,b) :: JD g es=_
  rw [h v (by simp),zas fun v hv=>h v (by simp only [List.map_cons,List.mem_cons];exact .inr hv)]
variable [qo]
structure Qs (w:World) (N:Nat → Prop):Prop where
 tab:∀ g cs,qo.glob g=some cs → N g ∧ ∀ (i:Nat) (a:i < cs.length),∃ x,w.cell? ⟨g,i,none⟩=some x ∧ kX w N cs[i] x
 ints:∀ g,g ∈ qo.ints → N g ∧ ∃ m:Int,w.cell? ⟨g,0,none⟩=some (.int .i64 m)
def zjl (n:Nat) (fr:Nat × Nat):Prop:=∀ i,i < n → ¬ (fr.1 ≤ i ∧ i < fr.2)
def ka (w:World) (N:Nat → Prop) (ρ:Nat → Pl) (p:Pl):zf → Prop
 | .box cs=>p.ph=false ∧ p.base=0 ∧ ∃ vs t fr,w.heap[p.b]?=some (.cells vs t fr) ∧ zjl vs.size fr ∧ vs.size=cs.length ∧
   ∀ (i:Nat) (h:i < cs.length),∃ x,vs[i]?=some x ∧ zo w N ρ cs[i] x
 | .rows sz e xs=>p.sz=sz ∧ (∀ x,x ∈ xs → x.length=sz) ∧ ((p.ph=true ∧ xs=[]) ∨ (p.ph=false ∧ ∃ vs t fr,w.heap[p.b]?=some (.cells vs t fr) ∧ zjl vs.size fr ∧ p.size=vs.size ∧ p.base + xs.length * sz ≤ vs.size ∧
   ∀ (j i:Nat) (hj:j < xs.length) (hi:i < (xs[j]).length),∃ x,vs[p.base + (j * sz + i)]?=some x ∧ kX w N (xs[j])[i] x))
 | .vec sz e xs=>p.sz=sz ∧ (∀ x,x ∈ xs → x.length=sz) ∧ ((p.ph=true ∧ xs=[]) ∨ (p.ph=false ∧ ∃ vs t fr,w.heap[p.b]?=some (.cells vs t fr) ∧ zjl vs.size fr ∧ p.size=vs.size ∧ p.base + xs.length * sz ≤ vs.size ∧
   ∀ (j i:Nat) (hj:j < xs.length) (hi:i < (xs[j]).length),∃ x,vs[p.base + (j * sz + i)]?=some x ∧ zo w N ρ (xs[j])[i] x))
 | .mp es clk=>p.ph=false ∧ ∃ E:Array MapEntry,w.heap[p.b]?=some (.map E clk) ∧ E.size=es.length ∧
   ∀ (i:Nat) (h:i < es.length),∃ x,E[i]?=some x ∧ kX w N es[i].1 x.key ∧ x.born=es[i].2.2 ∧ zo w N ρ es[i].2.1 x.val
 | .gone=>True
 | .zy=>True
def live (h:List zf) (i:Nat):Prop:=∃ k,h[i]?=some k ∧ k ≠ .gone ∧ k ≠ .zy
def owns (h:List zf) (ρ:Nat → Pl) (i:Nat):Prop:=live h i ∧ (ρ i).ph=false
structure zw (N:Nat → Prop) (h:List zf) (ρ:Nat → Pl) (w:World):Prop where
 lt:∀ b,N b → b < w.heap.size
 inj:∀ i j,owns h ρ i → owns h ρ j → (ρ i).b=(ρ j).b → i=j
 apart:∀ i,owns h ρ i → ¬ N (ρ i).b
 own:∀ i k,h[i]?=some k → ka w N ρ (ρ i) k
 scope:∀ (i:Nat) (k:zf),h[i]?=some k → AV.sc.scAll (born h) k.avs=true
 glob:Qs w N
structure Kept (N:Nat → Prop) (h:List zf) (ρ:Nat → Pl) (w:World) (N':Nat → Prop) (h':List zf) (ρ':Nat → Pl) (w':World):Prop where
 os:w'.os=w.os
 tape:w'.tape=w.tape
 output:w'.output=w.output
 size:w.heap.size ≤ w'.heap.size
 rho:∀ i,born h i=true → born h' i=true ∧ ρ' i = ρ i
 stay:∀ b,N b → N' b ∧ w'.heap[b]?=w.heap[b]?
 from_:∀ b,N' b → N b ∨ w.heap.size ≤ b ∨ ∃ i,owns h ρ i ∧ (ρ i).b=b
 rest:∀ b,b < w.heap.size → (∀ i,owns h ρ i → (ρ i).b ≠ b) → w'.heap[b]?=w.heap[b]?
 new:∀ i,owns h' ρ' i → w.heap.size ≤ (ρ' i).b ∨ ∃ j,owns h ρ j ∧ (ρ j).b=(ρ' i).b
theorem kX.mono {w w':World} {N N':Nat → Prop} {v:CV} {x:Value} (h:kX w N v x) (hk:∀ b,N b → N' b ∧ w'.heap[b]?=w.heap[b]?):kX w' N' v x:=by
 induction h with
 | int k n=>exact .int k n
 | bool b=>exact .bool b
 | str s=>exact .str s
 | nl=>exact .nl
 | nfn=>exact .nfn
 | nptr=>exact .nptr
 | nif=>exact .nif
 | nmp=>exact .nmp
 | fn f cs vs hl h ih=>exact .fn f cs vs hl ih
 | pt cs b o V hN hcell hrep ih=>exact .pt cs b o V (hk b hN).1 (fun i hi=>by rw [World.cell?_of_block (w:=w) (hk b hN).2];exact hcell i hi) ih
 | lst sz x xs A c V hx hc hm hsz hcell hrep ih =>
  refine .lst sz x xs A c V hx hc hm hsz (fun j i hj hi=>?_) ih
  obtain ⟨b,o,hA,hN,hv⟩:=hcell j i hj hi
  refine ⟨b,o,hA,(hk b hN).1,?_⟩
  rw [World.cell?_of_block (w:=w) (hk b hN).2];exact hv
theorem Qs.mono {w w':World} {N N':Nat → Prop} (h:Qs w N) (hk:∀ b,N b → N' b ∧ w'.heap[b]?=w.heap[b]?):Qs w' N':=⟨fun g cs hg=>by
 obtain ⟨h1,h2⟩:=h.tab g cs hg
 refine ⟨(hk g h1).1,fun i a=>?_⟩
 obtain ⟨x,hx,hr⟩:=h2 i a
 exact ⟨x,by rw [World.cell?_of_block (w:=w) (hk g h1).2];exact hx,hr.mono hk⟩,fun g hg=>by
 obtain ⟨h1,m,hm⟩:=h.ints g hg
 exact ⟨(hk g h1).1,m,by rw [World.cell?_of_block (w:=w) (hk g h1).2];exact hm⟩⟩
theorem ze {q:Nat → Bool}:∀ {l:List AV},AV.sc.scAll q l=true ↔ ∀ x,x ∈ l → AV.sc q x=true
 | []=>by simp [AV.sc.scAll]
 | x :: l=>by simp [AV.sc.scAll,ze (l:=l)]
theorem qp {q:Nat → Bool} {l:List AV} (h:AV.sc.scAll q l=true) {i:Nat} (hi:i < l.length):AV.sc q l[i]=true:=ze.1 h _ (List.getElem_mem hi)
theorem AV.zQ {q r:Nat → Bool} (hm:∀ i,q i=true → r i=true):∀ v:AV,AV.sc q v=true → AV.sc r v=true
 | .c _,_ | .rd _,_ | .und,_ | .dead,_=>rfl
 | .ptr id _,h | .mp id,h | .sl id _ _,h | .er id _ _,h | .es id _ _ _,h=>hm id h
 | .ifc _ v,h=>AV.zQ hm v h
 | .agg vs,h | .tup vs,h | .fn _ vs,h=>all vs h
where
 all:∀ vs:List AV,AV.sc.scAll q vs=true → AV.sc.scAll r vs=true
  | [],_=>rfl
  | v :: vs,h=>by
   simp only [AV.sc.scAll,Bool.and_eq_true] at h ⊢
   exact ⟨AV.zQ hm v h.1,all vs h.2⟩
theorem zo.mono {w w':World} {N N':Nat → Prop} {ρ ρ':Nat → Pl} {q:Nat → Bool} {v:AV} {x:Value} (h:zo w N ρ v x) (hv:AV.sc q v=true) (hk:∀ b,N b → N' b ∧ w'.heap[b]?=w.heap[b]?) (hr:∀ i,q i=true → ρ' i = ρ i) :
  zo w' N' ρ' v x:=by
 induction h with
 | c h=>exact .c (h.mono hk)
 | agg us vs hl h ih=>exact .agg us vs hl fun i a b=>ih i a b (qp hv a)
 | tup us vs hl h ih=>exact .tup us vs hl fun i a b=>ih i a b (qp hv a)
 | ptr id off =>
  have:=hr id (by simpa [AV.sc] using hv)
  rw [← this];exact .ptr id off
 | mp id =>
  have:=hr id (by simpa [AV.sc] using hv)
  rw [← this];exact .mp id
 | sn id hp =>
  have:=hr id (by simpa [AV.sc] using hv)
  exact .sn id (by rw [this];exact hp)
 | sl id off len cap o hp ho h1 h2 hm =>
  have:=hr id (by simpa [AV.sc] using hv)
  rw [← this] at hp ho h2 ⊢;exact .sl id off len cap o hp ho h1 h2 hm
 | er id j i =>
  have:=hr id (by simpa [AV.sc] using hv)
  rw [← this];exact .er id j i
 | es id j i n cap hph h1 hm =>
  have:=hr id (by simpa [AV.sc] using hv)
  rw [← this] at hph ⊢;exact .es id j i n cap hph h1 hm
 | ifc t v x h ih=>exact .ifc t v x (ih hv)
 | rd cs b o hN h =>
  refine .rd cs b o (hk b hN).1 fun i a=>?_
  obtain ⟨y,hy,hc⟩:=h i a
  exact ⟨y,by rw [World.cell?_of_block (w:=w) (hk b hN).2];exact hy,hc.mono hk⟩
 | fn f us vs hl h ih=>exact .fn f us vs hl fun i a b=>ih i a b (qp hv a)
 | und=>exact .und
 | dead y=>exact .dead y
theorem Kept.refl (N:Nat → Prop) (h:List zf) (ρ:Nat → Pl) (w:World):Kept N h ρ w N h ρ w:=
 ⟨rfl,rfl,rfl,Nat.le_refl _,fun _ hb=>⟨hb,rfl⟩,fun _ hb=>⟨hb,rfl⟩,fun _ hb=>.inl hb,fun _ _ _=>rfl,fun i hi=>.inr ⟨i,hi,rfl⟩⟩
theorem Kept.trans {N N1 N2:Nat → Prop} {h h1 h2:List zf} {ρ ρ1 ρ2:Nat → Pl} {w w1 w2:World} (a:Kept N h ρ w N1 h1 ρ1 w1) (b:Kept N1 h1 ρ1 w1 N2 h2 ρ2 w2):Kept N h ρ w N2 h2 ρ2 w2 where
 os:=b.os.trans a.os
 tape:=b.tape.trans a.tape
 output:=b.output.trans a.output
 size:=Nat.le_trans a.size b.size
 rho:=fun i hi=>⟨(b.rho i (a.rho i hi).1).1,(b.rho i (a.rho i hi).1).2.trans (a.rho i hi).2⟩
 stay:=fun c hc=>⟨(b.stay c (a.stay c hc).1).1,(b.stay c (a.stay c hc).1).2.trans (a.stay c hc).2⟩
 from_:=fun c hc=>by
  rcases b.from_ c hc with h | h | ⟨i,hi,he⟩
  ·exact a.from_ c h
  ·exact .inr (.inl (Nat.le_trans a.size h))
  ·subst he
   rcases a.new i hi with h | h
   ·exact .inr (.inl h)
   ·exact .inr (.inr h)
 rest:=fun c hc hn=>(b.rest c (Nat.lt_of_lt_of_le hc a.size) (fun i hi he=>by
  rcases a.new i hi with h | ⟨j,hj,h⟩
  ·omega
  ·exact hn j hj (h.trans he))).trans (a.rest c hc hn)
 new:=fun i hi=>by
  rcases b.new i hi with h | ⟨j,hj,h⟩
  ·exact .inl (Nat.le_trans a.size h)
  ·rcases a.new j hj with h' | ⟨l,hl,h'⟩
   ·exact .inl (by omega)
   ·exact .inr ⟨l,hl,h'.trans h⟩
theorem Kept.le {N:Nat → Prop} {h:List zf} {ρ:Nat → Pl} {w:World} {N':Nat → Prop} {h':List zf} {ρ':Nat → Pl} {w':World} (k:Kept N h ρ w N' h' ρ' w') :
  ∀ b,N b → N' b ∧ w'.heap[b]?=w.heap[b]?:=k.stay
end Go.Ev
namespace Go.Ev
open Go.RowKit
variable [qo]
structure Env where
 und:TypeId → Option TypeDesc
 size:TypeId → Option Nat
 bytes:TypeId → Option Nat
 zero:TypeId → Option (List CV)
 cmp:TypeId → Bool
 cls:Bool:=false
 zval:TypeId → Option AV:=fun _=>none
 vec:TypeId → Bool:=fun _=>false
def zlu:Value → Option CV
 | .bool b=>some (.bool b)
 | .int k n=>some (.int k n)
 | .string s=>some (.str s)
 | .slice none 0 0=>some .nl
 | .pointer none=>some .nptr
 | .nilFunc=>some .nfn
 | .nilIface=>some .nif
 | .map none=>some .nmp
 | _=>none
def Za:List Value → Option (List CV)
 | []=>some []
 | v :: vs=>match zlu v,Za vs with
  | some c,some cs=>some (c :: cs)
  | _,_=>none
def zjU:Value → Option AV
 | .agg cs=>(Za cs.toList).map fun l=>.agg (l.map .c)
 | v=>(zlu v).map .c
def opd (t:List AV):Operand → Option AV
 | .tmp i=>t[i]?
 | .const v=>zjU v
 | .func f=>some (.c (.fn f []))
 | .global g=>(qo.glob g).map .rd
def kH:AV → Bool
 | .c _ | .ptr _ _ | .mp _ | .sl _ _ _ | .er _ _ _ | .es _ _ _ _ | .ifc _ _ | .rd _ | .fn _ _=>true
 | _=>false
def cellsOf:AV → Option (List AV)
 | .agg vs=>if vs.all kH then some vs else none
 | v=>if kH v then some [v] else none
def kS:AV → Option CV
 | .c v=>some v
 | .fn f caps=>(closeAll caps).map (.fn f)
 | .rd cs=>some (.pt cs)
 | _=>none
where
 closeAll:List AV → Option (List CV)
  | []=>some []
  | v :: vs=>match kS v,closeAll vs with
   | some c,some cs=>some (c :: cs)
   | _,_=>none
def V4 (p:Bool) (a b:AV):AV:=
 match a,b with
 | .c (.bool x),.c (.bool y)=>.c (.bool (if p then x else y))
 | .c (.int k x),.c (.int k' y)=>if k=k' then .c (.int k (if p then x else y)) else if p then a else b
 | .c (.str x),.c (.str y)=>.c (.str (if p then x else y))
 | _,_=>if p then a else b
def kK {α:Type} (cells:List α) (off:Nat):List α → List α
 | []=>cells
 | v :: vs=>kK (cells.set off v) (off + 1) vs
def Kd (place:Nat → Option (Nat × Nat)) (cells:List AV):List (Nat × AV) → Option (List AV)
 | []=>some cells
 | (i,v) :: rest=>match place i,cellsOf v with
  | some (off,size),some vs=>if vs.length=size ∧ off + vs.length ≤ cells.length then Kd place (kK cells off vs) rest else none
  | _,_=>none
def xm (E:Env):List Field → Option (List (Nat × Nat))
 | []=>some []
 | f :: fs=>match E.size f.type,xm E fs with
  | some n,some l=>some ((f.offset,n) :: l)
  | _,_=>none
def parts (t:List AV):List (Nat × Operand) → Option (List (Nat × AV))
 | []=>some []
 | (i,x) :: r=>match opd t x,parts t r with
  | some v,some l=>some ((i,v) :: l)
  | _,_=>none
def yO (E:Env) (t:TypeId):Option Bool:=(E.und t).map fun | .struct _ | .array _ _=>true | _=>false
def oneOf:List AV → Option AV
 | [v]=>some v
 | _=>none
def asVar (E:Env) (t:TypeId) (cs:List AV):Option AV:=
 match yO E t,E.size t with
 | some true,some n=>if n ≤ cs.length then some (.agg (cs.take n)) else none
 | some false,some 1=>oneOf (cs.take 1)
 | _,_=>none
def JO (E:Env) (t:TypeId) (a:AV) (h:List zf):Option AV:=
 match a with
 | .rd cs=>asVar E t (cs.map .c)
 | .ptr id off=>match h[id]? with
  | some (.box cs)=>asVar E t (cs.drop off)
  | _=>none
 | .er id j i=>match h[id]? with
  | some (.rows _ _ xs)=>match xs[j]? with
   | some e=>asVar E t ((e.drop i).map .c)
   | none=>none
  | some (.vec _ _ xs)=>match xs[j]? with
   | some e=>asVar E t (e.drop i)
   | none=>none
  | _=>none
 | _=>none
def qt:List AV → Option (List CV):=kS.closeAll
def Qg (E:Env) (t:TypeId) (a v:AV) (h:List zf):Option (List (Nat × zf)):=
 match cellsOf v,E.size t with
 | some vs,some n=>if vs.length=n then
   match a with
   | .ptr id off=>match h[id]? with
    | some (.box cs)=>if off + n ≤ cs.length then some [(id,.box (kK cs off vs))] else none
    | _=>none
   | .er id j i=>match h[id]? with
    | some (.rows sz e xs)=>match xs[j]?,qt vs with
     | some x,some us=>if i + n ≤ x.length then some [(id,.rows sz e (xs.set j (kK x i us)))] else none
     | _,_=>none
    | some (.vec sz e xs)=>match xs[j]? with
     | some x=>if i + n ≤ x.length then some [(id,.vec sz e (xs.set j (kK x i vs)))] else none
     | none=>none
    | _=>none
   | _=>none
  else none
 | _,_=>none
def zmj (a:AV) (n:Nat):Option AV:=
 match a with
 | .rd cs=>if n < cs.length then some (.rd (cs.drop n)) else none
 | .ptr id off=>some (.ptr id (off + n))
 | .er id j i=>some (.er id j (i + n))
 | _=>none
def XT (E:Env) (s:TypeId) (a:AV) (f:Nat):Option AV:=
 match E.und s with
 | some (.struct fs)=>match fs[f]? with
  | some fd=>match E.size fd.type with
   | some n=>if n=0 then none else zmj a fd.offset
   | none=>none
  | none=>none
 | _=>none
def kU (E:Env) (t:TypeId) (x ix:AV) (h:List zf):Option AV:=
 match E.und t,x,ix with
 | some (.slice e),.c (.lst sz _ xs),.c (.int _ i)=>if E.size e=some sz ∧ 0 < sz ∧ 0 ≤ i ∧ i < xs.length then (xs[i.toNat]?).map .rd else none
 | some (.slice e),.sl id off len,.c (.int _ i)=>match h[id]? with
  | some (.rows sz _ _)=>if E.size e=some sz ∧ 0 ≤ i ∧ i < len then some (.er id (off + i.toNat) 0) else none
  | some (.vec sz _ _)=>if E.size e=some sz ∧ 0 ≤ i ∧ i < len then some (.er id (off + i.toNat) 0) else none
  | _=>none
 | some (.array n e),.ptr id off,.c (.int _ i)=>match E.size e with
  | some sz=>if 0 ≤ i ∧ i < n then some (.ptr id (off + i.toNat * sz)) else none
  | none=>none
 | some (.array n e),.er id j off,.c (.int _ i)=>match E.size e with
  | some sz=>if 0 ≤ i ∧ i < n then some (.er id j (off + i.toNat * sz)) else none
  | none=>none
 | some (.array n e),.rd cs,.c (.int _ i)=>match E.size e with
  | some sz=>if 0 ≤ i ∧ i < n then some (.rd (cs.drop (i.toNat * sz))) else none
  | none=>none
 | _,_,_=>none
def zgn (E:Env) (t:TypeId) (vs:List AV) (off:Nat):Option AV:=
 match yO E t,E.size t with
 | some true,some n=>if off + n ≤ vs.length then some (.agg ((vs.drop off).take n)) else none
 | some false,some _=>vs[off]?
 | _,_=>none
def XK (E:Env) (t:TypeId) (x ix:AV):Option AV:=
 match E.und t,x,ix with
 | some (.array n e),.agg vs,.c (.int _ i)=>match E.size e with
  | some sz=>if 0 ≤ i ∧ i < n then zgn E e vs (i.toNat * sz) else none
  | none=>none
 | some .string,.c (.str s),.c (.int _ i)=>if 0 ≤ i then (s[i.toNat]?).map fun b=>.c (.int .u8 b.toNat) else none
 | _,_,_=>none
def Kp (E:Env) (t:TypeId) (x:AV) (f:Nat):Option AV:=
 match E.und t,x with
 | some (.struct fs),.agg vs=>match fs[f]? with
  | some fd=>zgn E fd.type vs fd.offset
  | none=>none
 | _,_=>none
def vG (x:Option AV) (dflt top:Nat):Option Nat:=
 match x with
 | none=>some dflt
 | some (.c (.int _ i))=>if 0 ≤ i ∧ i ≤ top then some i.toNat else none
 | some _=>none
def Qe (E:Env) (t:TypeId) (x:AV) (lo hi:Option AV) (h:List zf):Option AV:=
 match E.und t,x with
 | some .string,.c (.str s)=>match vG hi s.size s.size with
  | some b=>(vG lo 0 b).map fun a=>.c (.str (s.extract a b))
  | none=>none
 | some (.slice e),.c (.lst sz q xs)=>if E.size e=some sz then
   match vG hi xs.length xs.length with
   | some b=>(vG lo 0 b).map fun a=>.c (.lst sz (q && decide (b=xs.length)) ((xs.take b).drop a))
   | none=>none
  else none
 | some (.slice e),.c .nl=>if (E.size e).isSome then
   match vG hi 0 0 with
   | some b=>(vG lo 0 b).map fun _=>.c .nl
   | none=>none
  else none
 | some (.slice e),.sl id off len=>match h[id]? with
  | some (.rows sz _ _)=>if E.size e=some sz then
    match vG hi len len with
    | some b=>(vG lo 0 b).map fun a=>.sl id (off + a) (b - a)
    | none=>none
   else none
  | some (.vec sz _ _)=>if E.size e=some sz then
    match vG hi len len with
    | some b=>(vG lo 0 b).map fun a=>.sl id (off + a) (b - a)
    | none=>none
   else none
  | _=>none
 | _,_=>none
def chunk (sz:Nat):Nat → List CV → List (List CV)
 | 0,_=>[]
 | n + 1,cs=>cs.take sz :: chunk sz n (cs.drop sz)
def xD (E:Env) (t:TypeId) (x:AV) (lo hi:Option AV) (h:List zf) (nw:Nat):Option (AV × List (Nat × zf)):=
 match E.und t,x with
 | some (.array n e),.ptr id 0=>match E.size e,h[id]? with
  | some sz,some (.box cs)=>match qt cs with
   | some us=>if 0 < sz ∧ us.length=n * sz ∧ n ≤ 9223372036854775807 then
     match vG hi n n with
     | some b=>(vG lo 0 b).map fun a=>(.sl nw a (b - a),[(id,.gone),(nw,.rows sz e (chunk sz n us))])
     | none=>none
    else none
   | none=>none
  | _,_=>none
 | _,_=>none
def Ko (E:Env) (t:TypeId) (x:AV):Option AV:=
 match E.und t,x with
 | some (.slice e),.c (.lst sz _ _)=>if E.size e=some sz then some (.c (.lst sz true [])) else none
 | some (.slice e),.c .nl=>(E.size e).map fun _=>.c .nl
 | some (.slice e),.sl _ _ _=>(E.size e).map fun sz=>.c (.lst sz true [])
 | _,_=>none
def zmp (E:Env) (t:TypeId) (x:AV):Option AV:=
 match E.und t,x with
 | some .string,.c (.str s)=>some (.c (.int .i64 s.size))
 | some (.slice _),.c (.lst _ _ xs)=>some (.c (.int .i64 xs.length))
 | some (.slice _),.c .nl=>some (.c (.int .i64 0))
 | some (.map _ _),.c .nmp=>some (.c (.int .i64 0))
 | some (.slice _),.sl _ _ len=>some (.c (.int .i64 len))
 | some (.array n _),_=>some (.c (.int .i64 n))
 | _,_=>none
def kI (E:Env) (sz:Nat) (e:TypeId) (xs:List (List CV)):zf:=if E.vec e then .vec sz e (xs.map (·.map .c)) else .rows sz e xs
def wo (E:Env) (t:TypeId) (l c:AV) (nw:Nat):Option (AV × List (Nat × zf)):=
 match E.und t,l,c with
 | some (.slice e),.c (.int k n),.c (.int k' m)=>if k = .i64 ∧ k' = .i64 ∧ n=m ∧ 0 ≤ n then
   match E.size e,E.bytes e,E.zero e with
   | some sz,some by_,some z=>if 0 < sz ∧ z.length=sz ∧ by_ * n.toNat ≤ 281474976710656 ∧ n ≤ 9223372036854775807 then some (.sl nw 0 n.toNat,[(nw,kI E sz e (List.replicate n.toNat z))]) else none
   | _,_,_=>none
  else none
 | _,_,_=>none
def wS (sz:Nat):Nat → List (Nat × AV) → Option (List (List CV))
 | _,[]=>some []
 | k,(i,v) :: r=>if i=k then
   match cellsOf v with
   | some vs=>match qt vs,wS sz (k + 1) r with
    | some e,some l=>if e.length=sz then some (e :: l) else none
    | _,_=>none
   | none=>none
  else none
def vR (sz:Nat):Nat → List (Nat × AV) → Option (List (List AV))
 | _,[]=>some []
 | k,(i,v) :: r=>if i=k then
   match cellsOf v,vR sz (k + 1) r with
   | some e,some l=>if e.length=sz then some (e :: l) else none
   | _,_=>none
  else none
def y8 (E:Env) (e:TypeId) (len:Nat) (ps:List (Nat × AV)) (nw:Nat):Option (AV × List (Nat × zf)):=
 match E.size e,E.zero e with
  | some sz,some z=>match vR sz 0 ps with
   | some xs=>if 0 < sz ∧ z.length=sz ∧ xs.length=len ∧ len * sz ≤ 16777216 then some (.sl nw 0 len,[(nw,.vec sz e xs)]) else none
   | none=>none
  | _,_=>none
def jk (E:Env) (t:TypeId) (len:Nat) (ps:List (Nat × AV)) (nw:Nat):Option (AV × List (Nat × zf)):=
 match E.und t with
 | some (.slice e)=>if E.vec e then y8 E e len ps nw else match E.size e,E.zero e with
  | some sz,some z=>match wS sz 0 ps with
   | some xs=>if 0 < sz ∧ z.length=sz ∧ xs.length=len ∧ len * sz ≤ 16777216 then some (.sl nw 0 len,[(nw,.rows sz e xs)]) else none
   | none=>none
  | _,_=>none
 | _=>none
def rowOf (h:List zf):AV → Option (List (List CV))
 | .c .nl=>some []
 | .c (.lst _ _ xs)=>some xs
 | .sl id off len=>match h[id]? with
  | some (.rows _ _ xs)=>if off + len ≤ xs.length then some ((xs.drop off).take len) else none
  | _=>none
 | _=>none
def qI (s:ByteArray):List (List CV):=s.data.toList.map fun b=>[.int .u8 b.toNat]
def wY (E:Env) (t:TypeId) (h:List zf) (sz:Nat) (x:AV):Option (List (List CV)):=
 match E.und t,x with
 | some .string,.c (.str s)=>if sz=1 then some (qI s) else none
 | some (.slice _),x=>rowOf h x
 | _,_=>none
def wT (E:Env) (t:TypeId) (h:List zf) (x:AV):Option (List (List AV)):=
 match E.und t,x with
 | some (.slice _),.c .nl=>some []
 | some (.slice _),.c (.lst _ _ xs)=>some (xs.map (·.map .c))
 | some (.slice _),.sl id off len=>match h[id]? with
  | some (.vec _ _ xs)=>if off + len ≤ xs.length then some ((xs.drop off).take len) else none
  | _=>none
 | _,_=>none
def wG (E:Env) (e u:TypeId) (s x:AV) (h:List zf) (nw:Nat):Option (AV × List (Nat × zf)):=
 match E.size e,E.bytes e,E.zero e with
   | some sz,some by_,some z=>match wT E u h x with
    | some ys=>if 0 < sz ∧ 0 < by_ ∧ z.length=sz ∧ ys.all (fun y=>y.length == sz && y.all kH)=true then
      match s with
      | .c .nl=>if ys.length * by_ ≤ 140737488355328 then some (.sl nw 0 ys.length,[(nw,.vec sz e ys)]) else none
      | .sl id off len=>match h[id]? with
       | some (.vec sz' e' xs)=>if sz'=sz ∧ e'=e ∧ off + len=xs.length ∧ (len + ys.length) * by_ ≤ 140737488355328 then some (.sl nw 0 (len + ys.length),[(id,.gone),(nw,.vec sz e (xs.drop off ++ ys))]) else none
       | _=>none
      | _=>none
     else none
    | none=>none
   | _,_,_=>none
def QR (E:Env) (t:TypeId) (s x:AV) (nw:Nat):Option (AV × List (Nat × zf)):=
 match E.und t,s,x with
 | some (.slice e),.c .nl,.c (.int .i64 n)=>match E.size e,E.bytes e,E.zero e with
  | some sz,some by_,some z=>if 0 < sz ∧ 0 < by_ ∧ z.length=sz ∧ 0 ≤ n ∧ n.toNat * by_ ≤ 140737488355328 then some (.sl nw 0 n.toNat,[(nw,kI E sz e (List.replicate n.toNat z))]) else none
  | _,_,_=>none
 | _,_,_=>none
def zbM (E:Env) (t:TypeId):Bool:=match E.und t with
 | some (.int _)=>true
 | _=>false
def yH (E:Env) (ts:List TypeId) (us:List AV) (h:List zf) (nw:Nat):Option (AV × List (Nat × zf)):=
 match ts,us with
 | [t,u],[s,x]=>match E.und t with
  | some (.slice e)=>if E.vec e then wG E e u s x h nw else match E.size e,E.bytes e,E.zero e with
   | some sz,some by_,some z=>match wY E u h sz x with
    | some ys=>if 0 < sz ∧ 0 < by_ ∧ z.length=sz ∧ ys.all (fun y=>y.length == sz)=true then
      match s with
      | .c .nl=>if ys.length * by_ ≤ 140737488355328 then some (.sl nw 0 ys.length,[(nw,.rows sz e ys)]) else none
      | .c (.lst sz' true xs)=>if sz'=sz ∧ (xs.length + ys.length) * by_ ≤ 140737488355328 ∧ ys.isEmpty=false then some (.sl nw 0 (xs.length + ys.length),[(nw,.rows sz e (xs ++ ys))]) else if sz'=sz ∧ ys.isEmpty=true then some (.c (.lst sz' true xs),[]) else none
      | .sl id off len=>match h[id]? with
       | some (.rows sz' e' xs)=>if sz'=sz ∧ e'=e ∧ off + len=xs.length ∧ (len + ys.length) * by_ ≤ 140737488355328 then some (.sl nw 0 (len + ys.length),[(id,.gone),(nw,.rows sz e (xs.drop off ++ ys))]) else none
       | _=>none
      | _=>none
     else none
    | none=>none
   | _,_,_=>none
  | _=>none
 | _,_=>none
def wI (E:Env) (ts:List TypeId) (us:List AV) (h:List zf) (nw:Nat):Option (AV × List (Nat × zf)):=
 match ts,us with
 | [t,u],[s,x]=>if zbM E u then QR E t s x nw else yH E [t,u] [s,x] h nw
 | _,_=>none
def WZ (E:Env) (t u:TypeId) (d x:AV) (h:List zf):Option (AV × List (Nat × zf)):=
 match E.und t,d with
 | some (.slice e),.sl id off len=>match h[id]?,E.size e with
  | some (.rows sz e' xs),some sz'=>match wY E u h sz x with
   | some ys=>if sz'=sz ∧ 0 < sz ∧ off + len ≤ xs.length ∧ ys.all (fun y=>y.length == sz)=true then
     some (.c (.int .i64 (min ys.length len:Nat)),[(id,.rows sz e' (kK xs off (ys.take (min ys.length len))))])
    else none
   | none=>none
  | _,_=>none
 | _,_=>none
def zmo (op:BinOp) (k:IntKind) (a b:Int):Option CV:=
 match op with
 | .add=>some (.int k (k.wrap (a + b)))
 | .sub=>some (.int k (k.wrap (a - b)))
 | .mul=>some (.int k (k.wrap (a * b)))
 | .quo=>if b=0 then none else some (.int k (k.wrap (a.tdiv b)))
 | .rem=>if b=0 then none else some (.int k (a.tmod b))
 | .and=>some (.int k (bits .and k a b))
 | .or=>some (.int k (bits .or k a b))
 | .xor=>some (.int k (bits .xor k a b))
 | .andNot=>some (.int k (bits .andNot k a b))
 | .eql=>some (.bool (a == b))
 | .neq=>some (.bool (a != b))
 | .lss=>some (.bool (decide (a < b)))
 | .leq=>some (.bool (decide (a ≤ b)))
 | .gtr=>some (.bool (decide (a > b)))
 | .geq=>some (.bool (decide (a ≥ b)))
 | _=>none
def zmm (op:BinOp) (x y:ByteArray):Option CV:=
 match op with
 | .add=>if x.size + y.size ≤ 9223372036854775807 then some (.str (x ++ y)) else none
 | .eql=>some (.bool (x.toList == y.toList))
 | .neq=>some (.bool !(x.toList == y.toList))
 | .lss=>some (.bool (Op.bytesLess x.toList y.toList))
 | .leq=>some (.bool (Op.bytesLess x.toList y.toList || x.toList == y.toList))
 | .gtr=>some (.bool !(Op.bytesLess x.toList y.toList || x.toList == y.toList))
 | .geq=>some (.bool !(Op.bytesLess x.toList y.toList))
 | _=>none
def zbB (op:BinOp) (k:IntKind) (a b:Int):Option CV:=
 if b < 0 then none else match op with
 | .shl=>some (.int k (k.wrap (a * 2 ^ (min b.toNat k.bits))))
 | .shr=>some (.int k (a.fdiv (2 ^ (min b.toNat k.bits))))
 | _=>none
def isNil:CV → Bool
 | .nl | .nptr | .nfn | .nmp=>true
 | _=>false
def eqC:List CV → List CV → Option Bool
 | [],[]=>some true
 | .int k a :: us,.int k' b :: vs=>if k=k' then (eqC us vs).map (a == b && ·) else none
 | .bool a :: us,.bool b :: vs=>(eqC us vs).map (a == b && ·)
 | .str a :: us,.str b :: vs=>(eqC us vs).map (a.toList == b.toList && ·)
 | _,_=>none
def Q7 (E:Env) (t:TypeId) (a:AV):Option Bool:=
 match E.und t,a with
 | some (.slice _),.c .nl=>some true
 | some (.slice _),.c (.lst sz _ (_ :: _))=>if 0 < sz then some false else none
 | some (.slice _),.sl _ _ (_ + 1)=>some false
 | some (.func _ _ _),.c .nfn=>some true
 | some (.func _ _ _),.c (.fn _ _)=>some false
 | some (.func _ _ _),.fn _ _=>some false
 | some (.pointer _),.c .nptr=>some true
 | some (.pointer _),.ptr _ _=>some false
 | some (.pointer _),.er _ _ _=>some false
 | some (.pointer _),.rd _=>some false
 | _,_=>none
def ziY (x y:Option Bool):Option Bool:=match x,y with
 | some true,some y=>some y
 | some x,some true=>some x
 | _,_=>none
def JX (E:Env) (t:TypeId) (a b:AV):Option Bool:=match E.und t,a,b with
 | some (.int _),.c (.int k x),.c (.int k' y)=>if k=k' then some (x == y) else none
 | some .bool,.c (.bool x),.c (.bool y)=>some (x == y)
 | some .string,.c (.str x),.c (.str y)=>some (x.toList == y.toList)
 | _,_,_=>none
def jH (E:Env) (us vs:List AV):List Field → Option Bool
 | []=>some true
 | f :: fs=>if f.name ≠ "_" then
   match us[f.offset]?,vs[f.offset]? with
   | some u,some v=>match JX E f.type u v,jH E us vs fs with
    | some r,some q=>some (r && q)
    | _,_=>none
   | _,_=>none
  else jH E us vs fs
def zga (op:BinOp) (r:Option Bool):Option AV:=match op with
 | .eql=>r.map fun r=>.c (.bool r)
 | .neq=>r.map fun r=>.c (.bool !r)
 | _=>none
def aEq (E:Env) (op:BinOp) (t:TypeId) (a b:AV):Option AV:=
 match a,b with
 | .agg us,.agg vs=>match E.und t with
  | some (.struct fs)=>if E.cmp t then zga op (jH E us vs fs.toList) else none
  | _=>none
 | a,b=>zga op (ziY (Q7 E t a) (Q7 E t b))
def zl7 (E:Env) (op:BinOp) (t:TypeId) (a b:AV):Option AV:=
 match a,b with
 | .c (.int k x),.c (.int k' y)=>(match op with
  | .shl | .shr=>zbB op k x y
  | _=>if k=k' then zmo op k x y else none).map .c
 | .c (.str x),.c (.str y)=>(zmm op x y).map .c
 | .c (.bool x),.c (.bool y)=>match E.und t with
  | some .bool=>match op with
   | .eql=>some (.c (.bool (x == y)))
   | .neq=>some (.c (.bool (!(x == y))))
   | _=>none
  | _=>none
 | a,b=>aEq E op t a b
def aUn (op:UnOp) (a:AV):Option AV:=
 match op,a with
 | .neg,.c (.int k n)=>some (.c (.int k (k.wrap (0 - n))))
 | .xor,.c (.int k n)=>some (.c (.int k (bits .xor k (if k.signed then -1 else k.max) n)))
 | .not,.c (.bool b)=>some (.c (.bool !b))
 | _,_=>none
def zj3:List CV → Option UInt8
 | [.int .u8 n]=>some (UInt8.ofNat n.toNat)
 | _=>none
def KI:List (List CV) → Option (List UInt8)
 | []=>some []
 | x :: xs=>match zj3 x,KI xs with
  | some b,some l=>some (b :: l)
  | _,_=>none
def Xy (E:Env) (src dst:TypeId) (x:AV) (h:List zf) (nw:Nat):Option (AV × List (Nat × zf)):=
 match E.und src,E.und dst,x with
 | some (.int _),some (.int k),.c (.int _ n)=>some (.c (.int k (k.wrap n)),[])
 | some .string,some .string,.c (.str s)=>some (.c (.str s),[])
 | some (.slice e),some .string,x=>match E.und e with
  | some (.int .u8)=>match rowOf h x with
   | some ys=>(KI ys).map fun l=>(.c (.str ⟨l.toArray⟩),[])
   | none=>none
  | _=>none
 | some .string,some (.slice e),.c (.str s)=>match E.und e with
  | some (.int .u8)=>if s.size ≤ 9223372036854775807 then some (.sl nw 0 s.size,[(nw,.rows 1 e (qI s))]) else none
  | _=>none
 | _,_,_=>none
def we (mx:Bool):List AV → Option AV
 | [.c (.int k a)]=>some (.c (.int k a))
 | .c (.int k a) :: .c (.int k' b) :: r=>if k=k' then we mx (.c (.int k (if mx then (if b > a then b else a) else (if b < a then b else a))) :: r) else none
 | _=>none
termination_by l=>l.length
def jj (t:List AV):List Operand → Option (List AV)
 | []=>some []
 | x :: r=>match opd t x,jj t r with
  | some v,some l=>some (v :: l)
  | _,_=>none
def Jt (t:List AV):Option Operand → Option (Option AV)
 | none=>some none
 | some x=>(opd t x).map some
def sliceB (E:Env) (ty:TypeId) (x:AV) (lo hi:Option AV) (h:List zf) (nw:Nat):Option (AV × List (Nat × zf)):=match x with
 | .ptr _ _=>xD E ty x lo hi h nw
 | _=>(Qe E ty x lo hi h).map (·,[])
def jM (E:Env) (ty:TypeId) (t:List AV) (h:List zf) (nw:Nat) (x:Operand) (lo hi mx:Option Operand):Option (AV × List (Nat × zf)):=match mx with
 | none=>match opd t x,Jt t lo,Jt t hi with
  | some x,some lo,some hi=>sliceB E ty x lo hi h nw
  | _,_,_=>none
 | some m=>match lo,hi with
  | none,some hh=>match opd t x,opd t hh,opd t m with
   | some x,some (.c (.int _ 0)),some (.c (.int _ 0))=>(Ko E ty x).map (·,[])
   | _,_,_=>none
  | _,_=>none
def zi3 (a b:CV):Option Bool:=match a,b with
 | .int k x,.int k' y=>if k=k' then some (x == y) else none
 | .str x,.str y=>some (x == y)
 | _,_=>none
def zaC (k:CV):List (CV × AV × Nat) → Nat → Option (Option (Nat × AV))
 | [],_=>some none
 | e :: es,i=>match zi3 k e.1 with
  | some true=>some (some (i,e.2.1))
  | some false=>zaC k es (i + 1)
  | none=>none
def zaF (E:Env) (t:TypeId) (k:CV):Bool:=match E.und t,k with
 | some (.int _),.int _ _=>true
 | some .string,.str _=>true
 | _,_=>false
def Kf (h:List zf):AV → Option (List (CV × AV × Nat))
 | .c .nmp=>some []
 | .mp id=>match h[id]? with
  | some (.mp es _)=>some es
  | _=>none
 | _=>none
def Zg (E:Env) (t:TypeId) (r:Option (Option AV)) (nw:Nat):Option (AV × List (Nat × zf)):=match r with
 | some none=>some (.mp nw,[(nw,.mp [] 0)])
 | some (some (.c (.int _ _)))=>match E.und t with
  | some (.map _ _)=>some (.mp nw,[(nw,.mp [] 0)])
  | _=>none
 | _=>none
def Vr (ok:Bool) (v:AV) (b:Bool):AV:=if ok then .tup [v,.c (.bool b)] else v
def xq (E:Env) (t:TypeId) (m k:AV) (ok:Bool) (h:List zf):Option AV:=match E.und t,k with
 | some (.map kt et),.c k=>if zaF E kt k then match Kf h m with
   | some es=>match zaC k es 0 with
    | some (some (_,v))=>some (Vr ok v true)
    | some none=>(E.zval et).map fun z=>Vr ok z false
    | none=>none
   | none=>none
  else none
 | _,_=>none
def ziB (es:List (CV × AV × Nat)) (clk:Nat) (k:CV) (v:AV):Option (Nat × AV) → zf
 | some (i,_)=>.mp (es.modify i fun e=>(e.1,v,e.2.2)) clk
 | none=>.mp (es ++ [(k,v,clk)]) (clk + 1)
def zhA (E:Env) (t:TypeId) (m k v:AV) (h:List zf):Option (List (Nat × zf)):=match E.und t,m,k with
 | some (.map kt _),.mp id,.c k=>if zaF E kt k then match h[id]? with
   | some (.mp es clk)=>(zaC k es 0).map fun r=>[(id,ziB es clk k v r)]
   | _=>none
  else none
 | _,_,_=>none
def XG (E:Env) (t:TypeId) (x:AV) (h:List zf):Option AV:=match x with
 | .mp id=>match E.und t,h[id]? with
  | some (.map _ _),some (.mp es _)=>some (.c (.int .i64 es.length))
  | _,_=>none
 | x=>zmp E t x
def Qd (E:Env) (t:TypeId) (x:AV) (h:List zf):Option (AV × List (Nat × zf)):=match E.und t,x with
 | some (.map _ _),.mp id=>match h[id]? with
  | some (.mp _ clk)=>some (.tup [],[(id,.mp [] clk)])
  | _=>none
 | _,_=>none
def xI (E:Env) (t:TypeId) (m k:AV) (h:List zf):Option (AV × List (Nat × zf)):=match E.und t,m,k with
 | some (.map kt _),.mp id,.c k=>if zaF E kt k then match h[id]? with
   | some (.mp es clk)=>(zaC k es 0).map fun r=>(.tup [],[(id,.mp (match r with | some (i,_)=>es.eraseIdx i | none=>es) clk)])
   | _=>none
  else none
 | _,_,_=>none
def kE (E:Env) (op:Op) (ty:TypeId) (t:List AV) (h:List zf) (nw:Nat):Option (AV × List (Nat × zf)):=
 match op with
 | .assign (.const (.slice none 0 0))=>match E.und ty with
  | some (.slice e)=>(E.size e).map fun sz=>(.sl nw 0 0,[(nw,kI E sz e [])])
  | _=>none
 | .move x | .assign x=>(opd t x).map (·,[])
 | .pick c a b=>match opd t c,opd t a,opd t b with
  | some (.c (.bool p)),some a,some b=>some (V4 p a b,[])
  | _,_,_=>none
 | .alloc e=>(E.zero e).map fun z=>(.ptr nw 0,[(nw,.box (z.map .c))])
 | .box _ x=>match opd t x with
  | some v=>(cellsOf v).map fun cs=>(.ptr nw 0,[(nw,.box cs)])
  | none=>none
 | .build ty ps=>match E.und ty,E.zero ty,parts t ps.toList with
  | some (.struct fs),some z,some l=>match xm E fs.toList with
   | some pl=>(Kd (fun i=>pl[i]?) (z.map .c) l).map fun cs=>(.agg cs,[])
   | none=>none
  | some (.array _ e),some z,some l=>match E.size e with
   | some sz=>(Kd (fun i=>some (i * sz,sz)) (z.map .c) l).map fun cs=>(.agg cs,[])
   | none=>none
  | _,_,_=>none
 | .buildSlice ty len ps=>match parts t ps.toList with
  | some l=>jk E ty len l nw
  | none=>none
 | .load ty a=>match opd t a with
  | some a=>(JO E ty a h).map (·,[])
  | none=>none
 | .store ty a x=>match opd t a,opd t x with
  | some a,some v=>(Qg E ty a v h).map fun u=>(.und,u)
  | _,_=>none
 | .nilCheck x=>match opd t x with
  | some (.ptr id off)=>some (.ptr id off,[])
  | some (.rd cs)=>some (.rd cs,[])
  | some (.er id j i)=>some (.er id j i,[])
  | some (.c (.fn f caps))=>some (.c (.fn f caps),[])
  | some (.fn f caps)=>some (.fn f caps,[])
  | _=>none
 | .binOp op ty x y _=>match opd t x,opd t y with
  | some a,some b=>(zl7 E op ty a b).map (·,[])
  | _,_=>none
 | .unOp op _ x=>match opd t x with
  | some a=>(aUn op a).map (·,[])
  | none=>none
 | .convert src dst x=>match opd t x with
  | some a=>Xy E src dst a h nw
  | none=>none
 | .makeFunc (.func f) first captured=>if first.size=0 then (jj t captured.toList).map fun l=>(match qt l with | some cs=>.c (.fn f cs) | none=>.fn f l,[]) else none
 | .makeSlice ty l c=>match opd t l,opd t c with
  | some l,some c=>wo E ty l c nw
  | _,_=>none
 | .slice ty x lo hi mx=>jM E ty t h nw x lo hi mx
 | .fieldAddr s x f=>match opd t x with
  | some a=>(XT E s a f).map (·,[])
  | none=>none
 | .indexAddr ty x ix=>match opd t x,opd t ix with
  | some x,some i=>(kU E ty x i h).map (·,[])
  | _,_=>none
 | .index ty x ix=>match opd t x,opd t ix with
  | some x,some i=>(XK E ty x i).map (·,[])
  | _,_=>none
 | .field ty x f=>match opd t x with
  | some a=>(Kp E ty a f).map (·,[])
  | none=>none
 | .extract x i=>match opd t x with
  | some (.tup vs)=>(vs[i]?).map (·,[])
  | _=>none
 | .makeMap ty r=>Zg E ty (Jt t r) nw
 | .lookup ty x ix ok=>match opd t x,opd t ix with
  | some m,some k=>(xq E ty m k ok h).map (·,[])
  | _,_=>none
 | .mapUpdate ty m k x=>match opd t m,opd t k,opd t x with
  | some m,some k,some x=>(zhA E ty m k x h).map fun u=>(.und,u)
  | _,_,_=>none
 | .insert ty m k x=>match opd t m,opd t k,opd t x with
  | some m,some k,some x=>(zhA E ty m k x h).map fun u=>(.und,u)
  | _,_,_=>none
 | .call { callee:=.builtin b,args,argTypes }=>match jj t args.toList with
  | some l=>match b with
   | .len=>match argTypes.toList,l with
    | ty :: _,x :: _=>(XG E ty x h).map (·,[])
    | _,_=>none
   | .clear=>match argTypes.toList,l with
    | ty :: _,x :: _=>Qd E ty x h
    | _,_=>none
   | .delete=>match argTypes.toList,l with
    | ty :: _,x :: k :: _=>xI E ty x k h
    | _,_=>none
   | .append=>wI E argTypes.toList l h nw
   | .cap=>match argTypes.toList,l with
    | t :: _,.c .nl :: _=>match E.und t with
     | some (.slice _)=>some (.c (.int .i64 0),[])
     | _=>none
    | _,_=>none
   | .copy=>match argTypes.toList,l with
    | t :: u :: _,x :: y :: _=>WZ E t u x y h
    | _,_=>none
   | .max=>(we true l).map (·,[])
   | .min=>(we false l).map (·,[])
   | _=>none
  | none=>none
 | _=>none
end Go.Ev
namespace Go.Ev
open Go.RowKit
variable [qo]
structure zE (P:Program) (E:Env):Prop where
 und:∀ t d,E.und t=some d → P.underlying t=some d
 size:∀ t n,E.size t=some n → ∃ i,P.info? t=some i ∧ i.size=n
 bytes:∀ t n,E.bytes t=some n → ∃ i,P.info? t=some i ∧ i.bytes=n
 zero:∀ t z,E.zero t=some z → ∃ i v,P.info? t=some i ∧ i.zero=some v ∧ Za v.cells.toList=some z
 zval:∀ t a,E.zval t=some a → ∃ i v,P.info? t=some i ∧ i.zero=some v ∧ zjU v=some a
 cmp:∀ t,E.cmp t=true → P.stoodInHeld t=false ∧ P.eqGuardType P.depth t=false
 mixed:P.follows .mixedOrders=true
def qW (h:List zf) (i:Nat) (k:zf):List zf:=if i < h.length then h.set i k else h ++ [k]
def app (h:List zf):List (Nat × zf) → List zf
 | []=>h
 | (i,k) :: U=>app (qW h i k) U
def upd (ρ:Nat → Pl) (i:Nat) (p:Pl):Nat → Pl:=fun j=>if j=i then p else ρ j
@[simp] theorem zV (ρ:Nat → Pl) (i:Nat) (p:Pl):upd ρ i p i=p:=by simp [upd]
theorem kF {ρ:Nat → Pl} {i j:Nat} {p:Pl} (h:j ≠ i):upd ρ i p j = ρ j:=by simp [upd,h]
def kA (h:List zf) (nw:Nat):Prop:=nw=h.length ∨ h[nw]?=some .zy
theorem kA.le {h:List zf} {nw:Nat} (hf:kA h nw):nw ≤ h.length:=by
 rcases hf with hf | hf
 ·omega
 ·have:=(List.getElem?_eq_some_iff.1 hf).1;omega
theorem kA.zy {h:List zf} {nw:Nat} (hf:kA h nw):born h nw=false:=by
 rcases hf with rfl | hf
 ·simp [born]
 ·simp [born,hf]
theorem qe {h:List zf} {i:Nat} {k:zf} (hi:i ≤ h.length):(qW h i k)[i]?=some k:=by
 unfold qW
 split
 ·simp [*]
 ·have:i=h.length:=by omega
  subst this;simp
theorem qR {h:List zf} {i j:Nat} {k:zf} (hi:i ≤ h.length) (hne:j ≠ i):(qW h i k)[j]?=h[j]?:=by
 unfold qW
 split
 ·rw [List.getElem?_set_ne (Ne.symm hne)]
 ·rcases Nat.lt_or_ge j h.length with hj | hj
  ·rw [List.getElem?_append_left hj]
  ·rw [List.getElem?_eq_none (by simp;omega),List.getElem?_eq_none hj]
theorem jv {h:List zf} {i:Nat} (hl:live h i):born h i=true:=by
 obtain ⟨k,hk,h1,h2⟩:=hl
 unfold born;rw [hk];cases k <;> simp_all
theorem km {h:List zf} {nw i:Nat} {k:zf} (hf:nw ≤ h.length) (hk:k ≠ .zy) (hb:born h i=true):born (qW h nw k) i=true:=by
 unfold born at *
 by_cases e:i=nw
 ·subst e;rw [qe hf];cases k <;> simp_all
 ·rw [qR hf e];exact hb
theorem ka.mono {w w':World} {N N':Nat → Prop} {ρ ρ':Nat → Pl} {p:Pl} {k:zf} {q:Nat → Bool} (h:ka w N ρ p k) (hs:AV.sc.scAll q k.avs=true)
  (hb:k ≠ .gone → k ≠ .zy → p.ph=false → w'.heap[p.b]?=w.heap[p.b]?) (hk:∀ b,N b → N' b ∧ w'.heap[b]?=w.heap[b]?) (hr:∀ i,q i=true → ρ' i = ρ i):ka w' N' ρ' p k:=by
 cases k with
 | box cs =>
  obtain ⟨hp,h0,vs,t,fr,hh,hf,hl,hc⟩:=h
  refine ⟨hp,h0,vs,t,fr,(hb (by simp) (by simp) hp).trans hh,hf,hl,fun i hi=>?_⟩
  obtain ⟨x,hx,hr'⟩:=hc i hi
  exact ⟨x,hx,hr'.mono (qp hs hi) hk hr⟩
 | rows sz e xs =>
  obtain ⟨h0,h1,h⟩:=h
  refine ⟨h0,h1,h.imp (fun z=>z) ?_⟩
  rintro ⟨hp,vs,t,fr,hh,hf,hsz,hl,hc⟩
  refine ⟨hp,vs,t,fr,(hb (by simp) (by simp) hp).trans hh,hf,hsz,hl,fun j i hj hi=>?_⟩
  obtain ⟨x,hx,hr'⟩:=hc j i hj hi
  exact ⟨x,hx,hr'.mono hk⟩
 | vec sz e xs =>
  obtain ⟨h0,h1,h⟩:=h
  refine ⟨h0,h1,h.imp (fun z=>z) ?_⟩
  rintro ⟨hp,vs,t,fr,hh,hf,hsz,hl,hc⟩
  refine ⟨hp,vs,t,fr,(hb (by simp) (by simp) hp).trans hh,hf,hsz,hl,fun j i hj hi=>?_⟩
  obtain ⟨x,hx,hr'⟩:=hc j i hj hi
  exact ⟨x,hx,hr'.mono (ze.1 hs _ (List.mem_flatten.2 ⟨_,List.getElem_mem hj,List.getElem_mem hi⟩)) hk hr⟩
 | mp es clk =>
  obtain ⟨hp,E,hh,hl,hc⟩:=h
  refine ⟨hp,E,(hb (by simp) (by simp) hp).trans hh,hl,fun i hi=>?_⟩
  obtain ⟨x,hx,h1,h2,h3⟩:=hc i hi
  exact ⟨x,hx,h1.mono hk,h2,h3.mono (ze.1 hs _ (List.mem_map.2 ⟨_,List.getElem_mem hi,rfl⟩)) hk hr⟩
 | gone=>trivial
 | zy=>trivial
theorem ka.JD {w w':World} {N N':Nat → Prop} {ρ ρ':Nat → Pl} {p:Pl} {es:List (CV × AV × Nat)} {c:Nat} {g:AV → AV} (h:ka w N ρ p (.mp es c))
  (hb:w'.heap[p.b]?=w.heap[p.b]?) (hk:∀ b,N b → N' b ∧ w'.heap[b]?=w.heap[b]?) (hg:∀ v,v ∈ (zf.mp es c).avs → ∀ x,zo w N ρ v x → zo w' N' ρ' (g v) x):ka w' N' ρ' p (.mp (JD g es) c):=by
 obtain ⟨hp,E,hh,hl,hc⟩:=h
 refine ⟨hp,E,hb.trans hh,by simp [Ev.JD,hl],fun i hi=>?_⟩
 have hi':i < es.length:=by simpa [Ev.JD] using hi
 obtain ⟨x,hx,h1,h2,h3⟩:=hc i hi'
 have e1:(Ev.JD g es)[i]=(es[i].1,g es[i].2.1,es[i].2.2):=by simp [Ev.JD]
 rw [e1]
 exact ⟨x,hx,h1.mono hk,h2,hg _ (List.mem_map.2 ⟨_,List.getElem_mem hi',rfl⟩) _ h3⟩
theorem yL {g:AV → AV} {es:List (CV × AV × Nat)} {c:Nat} {q:Nat → Bool} (h:∀ v,v ∈ (zf.mp es c).avs → AV.sc q (g v)=true):AV.sc.scAll q (zf.mp (JD g es) c).avs=true:=by
 refine ze.2 fun x hx=>?_
 obtain ⟨e,he,rfl⟩:=List.mem_map.1 hx
 obtain ⟨e0,he0,rfl⟩:=List.mem_map.1 he
 exact h _ (List.mem_map.2 ⟨_,he0,rfl⟩)
def Jo (g:AV → AV) (xs:List (List AV)):List (List AV):=xs.map (·.map g)
theorem zef {g:AV → AV} {xs:List (List AV)} (h:∀ v,v ∈ xs.flatten → g v=v):Jo g xs=xs:=by
 unfold Jo
 have:∀ y,y ∈ xs → y.map g=y:=fun y hy=>by
  have:∀ v,v ∈ y → g v=v:=fun v hv=>h v (List.mem_flatten.2 ⟨y,hy,hv⟩)
  clear hy h
  induction y with
  | nil=>rfl
  | cons a y ih=>simp only [List.map_cons];rw [this a (by simp),ih fun v hv=>this v (by simp [hv])]
 clear h
 induction xs with
 | nil=>rfl
 | cons a xs ih=>simp only [List.map_cons];rw [this a (by simp),ih fun v hv=>this v (by simp [hv])]
theorem ka.Jo {w w':World} {N N':Nat → Prop} {ρ ρ':Nat → Pl} {p:Pl} {sz:Nat} {e:TypeId} {xs:List (List AV)} {g:AV → AV} (h:ka w N ρ p (.vec sz e xs))
  (hb:w'.heap[p.b]?=w.heap[p.b]?) (hg:∀ v,v ∈ xs.flatten → ∀ x,zo w N ρ v x → zo w' N' ρ' (g v) x):ka w' N' ρ' p (.vec sz e (Jo g xs)):=by
 obtain ⟨h0,h1,h⟩:=h
 refine ⟨h0,fun x hx=>?_,h.imp (fun ⟨z,z'⟩=>⟨z,by rw [z'];rfl⟩) ?_⟩
 ·obtain ⟨y,hy,rfl⟩:=List.mem_map.1 hx
  rw [List.length_map];exact h1 y hy
 ·rintro ⟨hp,vs,t,fr,hh,hf,hsz,hl,hc⟩
  refine ⟨hp,vs,t,fr,hb.trans hh,hf,hsz,by simpa [Ev.Jo] using hl,fun j i hj hi=>?_⟩
  have hj':j < xs.length:=by simpa [Ev.Jo] using hj
  have e1:(Ev.Jo g xs)[j]=(xs[j]).map g:=by simp [Ev.Jo]
  have hi':i < (xs[j]).length:=by rw [e1] at hi;simpa using hi
  obtain ⟨x,hx,hr⟩:=hc j i hj' hi'
  refine ⟨x,hx,?_⟩
  have e2:((Ev.Jo g xs)[j])[i]=g (xs[j])[i]:=by simp [e1]
  rw [e2]
  exact hg _ (List.mem_flatten.2 ⟨_,List.getElem_mem hj',List.getElem_mem hi'⟩) _ hr
theorem ZC {g:AV → AV} {sz:Nat} {e:TypeId} {xs:List (List AV)} {q:Nat → Bool} (h:∀ v,v ∈ xs.flatten → AV.sc q (g v)=true):AV.sc.scAll q (zf.vec sz e (Jo g xs)).avs=true:=by
 refine ze.2 fun x hx=>?_
 obtain ⟨l,hl,hxl⟩:=List.mem_flatten.1 hx
 obtain ⟨y,hy,rfl⟩:=List.mem_map.1 hl
 obtain ⟨v,hv,rfl⟩:=List.mem_map.1 hxl
 exact h v (List.mem_flatten.2 ⟨y,hy,hv⟩)
theorem ka.zmK {w:World} {N:Nat → Prop} {ρ:Nat → Pl} {p:Pl} {sz:Nat} {e:TypeId} {xs:List (List CV)} (h:ka w N ρ p (.rows sz e xs)):ka w N ρ p (.vec sz e (xs.map (·.map .c))):=by
 obtain ⟨h0,h1,h⟩:=h
 refine ⟨h0,fun x hx=>?_,h.imp (fun ⟨z,z'⟩=>⟨z,by rw [z'];rfl⟩) ?_⟩
 ·obtain ⟨y,hy,rfl⟩:=List.mem_map.1 hx
  rw [List.length_map];exact h1 y hy
 ·rintro ⟨hp,vs,t,fr,hh,hf,hsz,hl,hc⟩
  refine ⟨hp,vs,t,fr,hh,hf,hsz,by simpa using hl,fun j i hj hi=>?_⟩
  have hj':j < xs.length:=by simpa using hj
  obtain ⟨x,hx,hr⟩:=hc j i hj' (by simpa using hi)
  exact ⟨x,hx,by simpa using zo.c hr⟩
theorem KF {sz:Nat} {e:TypeId} {xs:List (List CV)} {q:Nat → Bool}:AV.sc.scAll q (zf.vec sz e (xs.map (·.map .c))).avs=true:=by
 refine ze.2 fun x hx=>?_
 obtain ⟨l,hl,hxl⟩:=List.mem_flatten.1 hx
 obtain ⟨y,hy,rfl⟩:=List.mem_map.1 hl
 obtain ⟨v,hv,rfl⟩:=List.mem_map.1 hxl
 rfl
theorem ka.kI {E:Env} {w:World} {N:Nat → Prop} {ρ:Nat → Pl} {p:Pl} {sz:Nat} {e:TypeId} {xs:List (List CV)} (h:ka w N ρ p (.rows sz e xs)):ka w N ρ p (Ev.kI E sz e xs):=by
 unfold Ev.kI;split
 ·exact h.zmK
 ·exact h
theorem VY {E:Env} {sz:Nat} {e:TypeId} {xs:List (List CV)} {q:Nat → Bool}:AV.sc.scAll q (Ev.kI E sz e xs).avs=true:=by
 unfold Ev.kI;split
 ·exact KF
 ·rfl
theorem XY {E:Env} {sz:Nat} {e:TypeId} {xs:List (List CV)}:Ev.kI E sz e xs ≠ .zy ∧ Ev.kI E sz e xs ≠ .gone:=by
 unfold Ev.kI;split <;> exact ⟨by simp,by simp⟩
structure zn (N:Nat → Prop) (h:List zf) (ρ:Nat → Pl) (w:World) (v:AV) (h':List zf) (x:Value) (w':World):Prop where
 mk :: (out:∃ N' ρ',zw N' h' ρ' w' ∧ zo w' N' ρ' v x ∧ Kept N h ρ w N' h' ρ' w' ∧ v.sc (born h')=true)
theorem zn.quiet {N:Nat → Prop} {h:List zf} {ρ:Nat → Pl} {w:World} {v:AV} {x:Value} (H:zw N h ρ w) (hr:zo w N ρ v x) (hs:v.sc (born h)=true):zn N h ρ w v h x w:=
 ⟨⟨N,ρ,H,hr,Kept.refl _ _ _ _,hs⟩⟩
structure Made (w w':World):Prop where
 os:w'.os=w.os
 tape:w'.tape=w.tape
 output:w'.output=w.output
 size:w.heap.size ≤ w'.heap.size
 old:∀ b,b < w.heap.size → w'.heap[b]?=w.heap[b]?
theorem Made.alloc (w:World) (o:Obj):Made w (w.alloc o):=⟨rfl,rfl,rfl,by simp,fun b hb=>Below.heap_alloc w o b hb⟩
theorem Made.refl (w:World):Made w w:=⟨rfl,rfl,rfl,Nat.le_refl _,fun _ _=>rfl⟩
theorem zw.new {N:Nat → Prop} {h:List zf} {ρ:Nat → Pl} {w w':World} {nw:Nat} {k:zf} {p:Pl} (H:zw N h ρ w) (hf:kA h nw) (hm:Made w w') (hp:p.ph=false → w.heap.size ≤ p.b) (hku:k ≠ .zy)
  (hs:AV.sc.scAll (born h) k.avs=true) (hb:ka w' N (upd ρ nw p) p k) :
  zw N (qW h nw k) (upd ρ nw p) w' ∧ Kept N h ρ w N (qW h nw k) (upd ρ nw p) w':=by
 have hle:=hf.le
 have hun:=hf.zy
 have hlv:∀ i,live h i → i ≠ nw:=fun i hi e=>by subst e;rw [jv hi] at hun;cases hun
 have hbl:∀ i,owns h ρ i → (ρ i).b < w.heap.size:=fun i hi=>by
  obtain ⟨⟨k',hk',h1,h2⟩,hph⟩:=hi
  have:=H.own i k' hk'
  cases k' with
  | box cs=>obtain ⟨_,_,vs,t,fr,hh,_⟩:=this;exact (Array.getElem?_eq_some_iff.1 hh).1
  | rows sz e xs =>
   obtain ⟨_,_,⟨h,_⟩ | ⟨_,vs,t,fr,hh,_⟩⟩:=this
   ·rw [h] at hph;cases hph
   ·exact (Array.getElem?_eq_some_iff.1 hh).1
  | vec sz e xs =>
   obtain ⟨_,_,⟨h,_⟩ | ⟨_,vs,t,fr,hh,_⟩⟩:=this
   ·rw [h] at hph;cases hph
   ·exact (Array.getElem?_eq_some_iff.1 hh).1
  | mp es clk=>obtain ⟨_,E,hh,_⟩:=this;exact (Array.getElem?_eq_some_iff.1 hh).1
  | gone=>simp at h1
  | zy=>simp at h2
 have hcase:∀ i,owns (qW h nw k) (upd ρ nw p) i → (i=nw ∧ w.heap.size ≤ p.b) ∨ (i ≠ nw ∧ owns h ρ i):=fun i hi=>by
  obtain ⟨⟨k',hk',h1⟩,hph⟩:=hi
  by_cases e:i=nw
  ·subst e;rw [zV] at hph;exact .inl ⟨rfl,hp hph⟩
  ·refine .inr ⟨e,?_⟩
   rw [qR hle e] at hk'
   rw [kF e] at hph
   exact ⟨⟨k',hk',h1⟩,hph⟩
 have hst:∀ b,N b → N b ∧ w'.heap[b]?=w.heap[b]?:=fun b hN=>⟨hN,hm.old b (H.lt b hN)⟩
 have hrho:∀ i,born h i=true → upd ρ nw p i = ρ i:=fun i hi=>kF (fun e=>by subst e;rw [hun] at hi;cases hi)
 refine ⟨⟨fun b hN=>Nat.lt_of_lt_of_le (H.lt b hN) hm.size,fun i j hi hj he=>?_,fun i hi=>?_,fun i k' hk'=>?_,fun i cs hc=>?_,H.glob.mono hst⟩,?_⟩
 ·rcases hcase i hi with ⟨rfl,hi'⟩ | ⟨hi1,hi2⟩
  ·rcases hcase j hj with ⟨rfl,hj'⟩ | ⟨hj1,hj2⟩
   ·rfl
   ·rw [zV,kF hj1] at he
    have:=hbl j hj2;omega
  ·rcases hcase j hj with ⟨rfl,hj'⟩ | ⟨hj1,hj2⟩
   ·rw [zV,kF hi1] at he
    have:=hbl i hi2;omega
   ·rw [kF hi1,kF hj1] at he
    exact H.inj i j hi2 hj2 he
 ·rcases hcase i hi with ⟨rfl,hi'⟩ | ⟨hi1,hi2⟩
  ·rw [zV];exact fun hN=>by have:=H.lt _ hN;omega
  ·rw [kF hi1];exact H.apart i hi2
 ·by_cases e:i=nw
  ·subst e
   rw [qe hle] at hk';cases hk'
   rw [zV];exact hb
  ·rw [qR hle e] at hk'
   rw [kF e]
   refine (H.own i k' hk').mono (q:=born h) (H.scope i _ hk') (fun h1 h2 h3=>hm.old _ (hbl i ⟨⟨k',hk',h1,h2⟩,h3⟩)) hst hrho
 ·by_cases e:i=nw
  ·subst e
   rw [qe hle] at hc;cases hc
   exact AV.zQ.all (fun i hi=>km hle hku hi) _ hs
  ·rw [qR hle e] at hc
   exact AV.zQ.all (fun i hi=>km hle hku hi) _ (H.scope i _ hc)
 ·exact ⟨hm.os,hm.tape,hm.output,hm.size,fun i hi=>⟨km hle hku hi,hrho i hi⟩,hst,fun b hb=>.inl hb,fun b hb _=>hm.old b hb,fun i hi=>by
   rcases hcase i hi with ⟨rfl,hi'⟩ | ⟨hi1,hi2⟩
   ·rw [zV];exact .inl hi'
   ·rw [kF hi1];exact .inr ⟨i,hi2,rfl⟩⟩
structure xe (b:Nat) (w w':World):Prop where
 os:w'.os=w.os
 tape:w'.tape=w.tape
 output:w'.output=w.output
 size:w'.heap.size=w.heap.size
 old:∀ c,c ≠ b → w'.heap[c]?=w.heap[c]?
theorem xe.refl (b:Nat) (w:World):xe b w w:=⟨rfl,rfl,rfl,rfl,fun _ _=>rfl⟩
theorem xe.setCell {b:Nat} {w w':World} (h:xe b w w') (a:Addr) (ha:a.block=b) (v:Value):xe b w (w'.setCell a v):=
 ⟨h.os,h.tape,h.output,by rw [World.size_setCell];exact h.size,fun c hc=>(Below.heap_setCell _ _ _ _ (by rw [ha];exact hc)).trans (h.old c hc)⟩
theorem zw.wrote {N:Nat → Prop} {h:List zf} {ρ:Nat → Pl} {w w':World} {id:Nat} {k:zf} (H:zw N h ρ w) (hl:owns h ρ id) (hw:xe (ρ id).b w w') (hku:k ≠ .zy)
  (hs:AV.sc.scAll (born h) k.avs=true) (hb:ka w' N ρ (ρ id) k) :
  zw N (qW h id k) ρ w' ∧ Kept N h ρ w N (qW h id k) ρ w':=by
 have hlt:id < h.length:=by obtain ⟨⟨k',hk',_⟩,_⟩:=hl;exact (List.getElem?_eq_some_iff.1 hk').1
 have hle:id ≤ h.length:=Nat.le_of_lt hlt
 have hcase:∀ i,owns (qW h id k) ρ i → owns h ρ i:=fun i hi=>by
  by_cases e:i=id
  ·subst e;exact hl
  ·obtain ⟨⟨k',hk',h1⟩,hph⟩:=hi
   rw [qR hle e] at hk'
   exact ⟨⟨k',hk',h1⟩,hph⟩
 have hst:∀ b,N b → N b ∧ w'.heap[b]?=w.heap[b]?:=fun b hN=>⟨hN,hw.old b (fun e=>H.apart id hl (e ▸ hN))⟩
 refine ⟨⟨fun b hN=>by rw [hw.size];exact H.lt b hN,fun i j hi hj he=>H.inj i j (hcase i hi) (hcase j hj) he,fun i hi=>H.apart i (hcase i hi),fun i k' hk'=>?_,fun i cs hc=>?_,H.glob.mono hst⟩,?_⟩
 ·by_cases e:i=id
  ·subst e
   rw [qe hle] at hk';cases hk'
   exact hb
  ·rw [qR hle e] at hk'
   exact (H.own i k' hk').mono (q:=born h) (H.scope i _ hk') (fun h1 h2 h3=>hw.old _ (fun e'=>e (H.inj i id ⟨⟨k',hk',h1,h2⟩,h3⟩ hl e'))) hst (fun _ _=>rfl)
 ·by_cases e:i=id
  ·subst e
   rw [qe hle] at hc;cases hc
   exact AV.zQ.all (fun i hi=>km hle hku hi) _ hs
  ·rw [qR hle e] at hc
   exact AV.zQ.all (fun i hi=>km hle hku hi) _ (H.scope i _ hc)
 ·exact ⟨hw.os,hw.tape,hw.output,Nat.le_of_eq hw.size.symm,fun i hi=>⟨km hle hku hi,rfl⟩,hst,fun b hb=>.inl hb,fun b _ hn=>hw.old b (fun e=>hn id hl e.symm),fun i hi=>.inr ⟨i,hcase i hi,rfl⟩⟩
theorem zw.drop {N:Nat → Prop} {h:List zf} {ρ:Nat → Pl} {w:World} {id:Nat} (H:zw N h ρ w) (hlt:id < h.length) (hbn:born h id=true) :
  zw N (qW h id .gone) ρ w ∧ Kept N h ρ w N (qW h id .gone) ρ w:=by
 have hle:id ≤ h.length:=Nat.le_of_lt hlt
 have hcase:∀ i,owns (qW h id .gone) ρ i → owns h ρ i:=fun i hi=>by
  by_cases e:i=id
  ·subst e
   obtain ⟨⟨k',hk',h1,_⟩,_⟩:=hi
   rw [qe hle] at hk';cases hk';simp at h1
  ·obtain ⟨⟨k',hk',h1⟩,hph⟩:=hi
   rw [qR hle e] at hk'
   exact ⟨⟨k',hk',h1⟩,hph⟩
 have hst:∀ b,N b → N b ∧ w.heap[b]?=w.heap[b]?:=fun b hN=>⟨hN,rfl⟩
 refine ⟨⟨H.lt,fun i j hi hj he=>H.inj i j (hcase i hi) (hcase j hj) he,fun i hi=>H.apart i (hcase i hi),fun i k' hk'=>?_,fun i cs hc=>?_,H.glob.mono hst⟩,?_⟩
 ·by_cases e:i=id
  ·subst e
   rw [qe hle] at hk';cases hk';trivial
  ·rw [qR hle e] at hk'
   exact H.own i k' hk'
 ·by_cases e:i=id
  ·subst e
   rw [qe hle] at hc;cases hc;rfl
  ·rw [qR hle e] at hc
   exact AV.zQ.all (fun i hi=>km hle (by simp) hi) _ (H.scope i _ hc)
 ·exact ⟨rfl,rfl,rfl,Nat.le_refl _,fun i hi=>⟨km hle (by simp) hi,rfl⟩,hst,fun b hb=>.inl hb,fun _ _ _=>rfl,fun i hi=>.inr ⟨i,hcase i hi,rfl⟩⟩
end Go.Ev
namespace Go.Ev
open Go.RowKit
variable [qo]
section
variable {P:Program} {E:Env} (T:zE P E)
include T
theorem zE.zt {t:TypeId} {d:TypeDesc} (h:E.und t=some d) (w:World):(underlying t).run P w = .ok d w:=run_underlying (T.und t d h) w
theorem zE.zM {t:TypeId} {n:Nat} (h:E.size t=some n) (w:World):(sizeOf t).run P w = .ok n w:=by
 obtain ⟨i,hi,rfl⟩:=T.size t n h
 simp [sizeOf,typeInfo,hi]
theorem zE.jX {t:TypeId} {b:Bool} (h:yO E t=some b) (w:World):(isAgg t).run P w = .ok b w:=by
 unfold yO at h
 obtain ⟨d,hd,hb⟩:=Option.map_eq_some_iff.1 h
 subst hb
 simp only [isAgg,Sem.run_bind,T.zt hd,Result.andThen_ok]
 cases d <;> rfl
end
theorem add_plain (b o n:Nat):(⟨b,o,none⟩:Addr).add n=⟨b,o + n,none⟩:=by
 unfold Addr.add;split <;> simp_all
def zdO (w:World) (N:Nat → Prop) (ρ:Nat → Pl) (b o:Nat) (cs:List AV):Prop:=∀ (i:Nat) (h:i < cs.length),∃ x,w.cell? ⟨b,o + i,none⟩=some x ∧ zo w N ρ cs[i] x
theorem zdO.drop {w:World} {N:Nat → Prop} {ρ:Nat → Pl} {b o:Nat} {cs:List AV} (h:zdO w N ρ b o cs) (n:Nat):zdO w N ρ b (o + n) (cs.drop n):=fun i hi=>by
 obtain ⟨x,hx,hr⟩:=h (n + i) (by simp at hi;omega)
 exact ⟨x,by rw [Nat.add_assoc];exact hx,by simpa using hr⟩
theorem yA {q:Nat → Bool} {cs:List AV} (h:AV.sc.scAll q cs=true) (n:Nat):AV.sc.scAll q (cs.drop n)=true:=ze.2 fun x hx=>ze.1 h x (List.mem_of_mem_drop hx)
theorem KV {q:Nat → Bool} {cs:List AV} (h:AV.sc.scAll q cs=true) (n:Nat):AV.sc.scAll q (cs.take n)=true:=ze.2 fun x hx=>ze.1 h x (List.mem_of_mem_take hx)
theorem xT {q:Nat → Bool} (cs:List CV):AV.sc.scAll q (cs.map AV.c)=true:=ze.2 fun x hx=>by
 obtain ⟨v,_,rfl⟩:=List.mem_map.1 hx;rfl
theorem wU {P:Program} {E:Env} (T:zE P E) {w:World} {N:Nat → Prop} {ρ:Nat → Pl} {b o:Nat} {t:TypeId} {cs:List AV} {v:AV} (h:asVar E t cs=some v) (hl:zdO w N ρ b o cs) :
  ∃ x,(loadVar t ⟨b,o,none⟩).run P w = .ok x w ∧ zo w N ρ v x ∧ ∀ q,AV.sc.scAll q cs=true → v.sc q=true:=by
 unfold asVar at h
 split at h
 ·rename_i n ha hn
  split at h
  ·rename_i hle
   cases h
   have hf:∀ j,j < n → ∃ x,w.cell? ⟨b,o + j,none⟩=some x ∧ ∀ (hj:j < cs.length),zo w N ρ cs[j] x:=fun j hj=>by
    obtain ⟨x,hx,hr⟩:=hl j (by omega)
    exact ⟨x,hx,fun _=>hr⟩
   let f:Nat → Value:=fun j=>(w.cell? ⟨b,o + j,none⟩).getD undef
   have hfc:∀ j,j < n → w.cell? ((⟨b,o,none⟩:Addr).add j)=some (f j):=fun j hj=>by
    obtain ⟨x,hx,_⟩:=hf j hj
    rw [add_plain];simp only [f,hx,Option.getD_some]
   refine ⟨.agg ((List.range n).map f).toArray,?_,.agg _ _ (by simp;omega) fun i hi hi'=>?_,fun q hq=>?_⟩
   ·simp only [loadVar,Sem.run_bind,T.jX ha,Result.andThen_ok,if_true,T.zM hn,run_loadCells w _ n f hfc,Sem.run_pure]
   ·simp only [List.length_take] at hi
    obtain ⟨x,hx,hr⟩:=hf i (by omega)
    have:=hr (by omega)
    simpa [f,hx] using this
   ·simp only [AV.sc];exact KV hq n
  ·cases h
 ·rename_i ha hn
  cases cs with
  | nil=>simp [oneOf] at h
  | cons c r =>
   simp [oneOf] at h
   subst h
   obtain ⟨x,hx,hr⟩:=hl 0 (by simp)
   refine ⟨x,?_,by simpa using hr,fun q hq=>ze.1 hq _ (by simp)⟩
   simp only [loadVar,Sem.run_bind,T.jX ha,Result.andThen_ok,Bool.false_eq_true,if_false]
   rw [Nat.add_zero] at hx
   simp [run_load,hx]
 ·cases h
theorem z8 {w:World} {b i:Nat} {vs:Array Value} {t:TypeId} {fr:Nat × Nat} (h:w.heap[b]?=some (.cells vs t fr)):w.cell? ⟨b,i,none⟩=vs[i]?:=by
 simp [World.cell?,h]
theorem zdO.box {w:World} {N:Nat → Prop} {ρ:Nat → Pl} {p:Pl} {cs:List AV} (h:ka w N ρ p (.box cs)):zdO w N ρ p.b 0 cs:=fun i hi=>by
 obtain ⟨_,_,vs,t,fr,hh,_,_,hc⟩:=h
 obtain ⟨x,hx,hr⟩:=hc i hi
 exact ⟨x,by rw [z8 hh,Nat.zero_add];exact hx,hr⟩
theorem zdO.row {w:World} {N:Nat → Prop} {ρ:Nat → Pl} {p:Pl} {sz:Nat} {e:TypeId} {xs:List (List CV)} (h:ka w N ρ p (.rows sz e xs)) {j:Nat} {x:List CV} (hj:xs[j]?=some x):zdO w N ρ p.b (p.base + j * sz) (x.map .c):=fun i hi=>by
 obtain ⟨hlt,rfl⟩:=List.getElem?_eq_some_iff.1 hj
 obtain ⟨_,_,⟨_,h0⟩ | ⟨_,vs,t,fr,hh,_,_,_,hc⟩⟩:=h
 ·subst h0;simp at hlt
 obtain ⟨y,hy,hr⟩:=hc j i hlt (by simpa using hi)
 refine ⟨y,?_,by simpa using zo.c hr⟩
 rw [z8 hh,Nat.add_assoc];exact hy
theorem zdO.vec {w:World} {N:Nat → Prop} {ρ:Nat → Pl} {p:Pl} {sz:Nat} {e:TypeId} {xs:List (List AV)} (h:ka w N ρ p (.vec sz e xs)) {j:Nat} {x:List AV} (hj:xs[j]?=some x):zdO w N ρ p.b (p.base + j * sz) x:=fun i hi=>by
 obtain ⟨hlt,rfl⟩:=List.getElem?_eq_some_iff.1 hj
 obtain ⟨_,_,⟨_,h0⟩ | ⟨_,vs,t,fr,hh,_,_,_,hc⟩⟩:=h
 ·subst h0;simp at hlt
 obtain ⟨y,hy,hr⟩:=hc j i hlt hi
 refine ⟨y,?_,hr⟩
 rw [z8 hh,Nat.add_assoc];exact hy
theorem K6 {P:Program} {E:Env} (T:zE P E) {w:World} {N:Nat → Prop} {ρ:Nat → Pl} {h:List zf} (H:zw N h ρ w) {t:TypeId} {a v:AV} {x:Value} (ha:zo w N ρ a x) (hv:JO E t a h=some v) :
  ∃ y,(Instr.loadAt t x).run P w = .ok y w ∧ zo w N ρ v y ∧ v.sc (born h)=true:=by
 unfold JO at hv
 split at hv
 ·cases ha with
  | rd cs b o hN hc =>
   obtain ⟨y,hy,hr,hs⟩:=wU T hv (w:=w) (N:=N) (ρ:=ρ) (b:=b) (o:=o) (fun i hi=>by
    obtain ⟨z,hz,hz'⟩:=hc i (by simpa using hi)
    exact ⟨z,hz,by simpa using zo.c hz'⟩)
   exact ⟨y,by simp [Instr.loadAt,Instr.sureAddr,hy],hr,hs _ (xT _)⟩
 ·rename_i id off
  cases ha with
  | ptr _ _ =>
   split at hv
   ·rename_i cs hb
    have hk:=H.own id _ hb
    have hl:=(zdO.box hk).drop off
    rw [Nat.zero_add] at hl
    obtain ⟨y,hy,hr,hs⟩:=wU T hv hl
    refine ⟨y,?_,hr,hs _ (yA (H.scope id _ hb) off)⟩
    rw [hk.2.1,Nat.zero_add]
    simp [Instr.loadAt,Instr.sureAddr,hy]
   ·cases hv
 ·rename_i id j i
  cases ha with
  | er _ _ _ =>
   split at hv
   ·rename_i sz e xs hb
    split at hv
    ·rename_i x hx
     have hk:=H.own id _ hb
     have hl:=(zdO.row hk hx).drop i
     rw [← List.map_drop] at hl
     obtain ⟨y,hy,hr,hs⟩:=wU T hv hl
     refine ⟨y,?_,hr,hs _ (xT _)⟩
     rw [hk.1,← Nat.add_assoc]
     simp [Instr.loadAt,Instr.sureAddr,hy]
    ·cases hv
   ·rename_i sz e xs hb
    split at hv
    ·rename_i x hx
     have hk:=H.own id _ hb
     have hl:=(zdO.vec hk hx).drop i
     obtain ⟨y,hy,hr,hs⟩:=wU T hv hl
     refine ⟨y,?_,hr,hs _ (yA (ze.2 fun z hz=>ze.1 (H.scope id _ hb) z (List.mem_flatten.2 ⟨x,List.mem_of_getElem? hx,hz⟩)) i)⟩
     rw [hk.1,← Nat.add_assoc]
     simp [Instr.loadAt,Instr.sureAddr,hy]
    ·cases hv
   ·cases hv
 ·cases hv
theorem zba {w:World} {N:Nat → Prop} {v:Value} {c:CV} (h:zlu v=some c):kX w N c v:=by
 unfold zlu at h
 split at h <;> first | (cases h;constructor) | cases h
theorem Z5 {w:World} {N:Nat → Prop}:∀ {vs:List Value} {cs:List CV},Za vs=some cs → cs.length=vs.length ∧ ∀ (i:Nat) (a:i < cs.length) (b:i < vs.length),kX w N cs[i] vs[i]
 | [],cs,h=>by simp [Za] at h;subst h;exact ⟨rfl,fun i a=>absurd a (by simp)⟩
 | v :: vs,cs,h=>by
  unfold Za at h
  split at h
  ·rename_i c cs' hc hcs
   cases h
   obtain ⟨hl,hr⟩:=Z5 (w:=w) (N:=N) hcs
   refine ⟨by simp [hl],fun i a b=>?_⟩
   cases i with
   | zero=>exact zba hc
   | succ i=>exact hr i (by simpa using a) (by simpa using b)
  ·cases h
theorem Jy {w:World} {N:Nat → Prop} {ρ:Nat → Pl} {v:Value} {a:AV} (h:zjU v=some a):zo w N ρ a v ∧ ∀ q,a.sc q=true:=by
 unfold zjU at h
 split at h
 ·rename_i cs
  obtain ⟨l,hl,rfl⟩:=Option.map_eq_some_iff.1 h
  obtain ⟨h1,h2⟩:=Z5 (w:=w) (N:=N) hl
  refine ⟨?_,fun q=>by simp only [AV.sc];exact xT l⟩
  have:=zo.agg (w:=w) (N:=N) (ρ:=ρ) (l.map .c) cs.toList (by simpa using h1) (fun i a b=>by simpa using zo.c (h2 i (by simpa using a) b))
  simpa using this
 ·obtain ⟨c,hc,rfl⟩:=Option.map_eq_some_iff.1 h
  exact ⟨.c (zba hc),fun q=>rfl⟩
structure x7 (w:World) (N:Nat → Prop) (ρ:Nat → Pl) (t:List AV) (tmps:Array Value):Prop where
 len:t.length=tmps.size
 rep:∀ (i:Nat) (v:AV),t[i]?=some v → ∃ x,tmps[i]?=some x ∧ zo w N ρ v x
 glob:Qs w N
theorem zz {w:World} {N:Nat → Prop} {ρ:Nat → Pl} {t:List AV} {a:Act} {x:Operand} {v:AV} (S:x7 w N ρ t a.tmps) (h:opd t x=some v):zo w N ρ v (a.eval x):=by
 unfold opd at h
 cases x with
 | tmp i =>
  obtain ⟨y,hy,hr⟩:=S.rep i v h
  simpa [Act.eval,Array.getD_eq_getD_getElem?,hy] using hr
 | const v'=>exact (Jy h).1
 | global g =>
  obtain ⟨cs,hg,rfl⟩:=Option.map_eq_some_iff.1 h
  obtain ⟨h1,h2⟩:=S.glob.tab g cs hg
  exact .rd cs g 0 h1 fun i a=>by simpa using h2 i a
 | func f =>
  cases h
  exact .c (.fn f [] [] rfl (fun i a=>absurd a (by simp)))
theorem kB {q:Nat → Bool} {t:List AV} {x:Operand} {v:AV} (hs:AV.sc.scAll q t=true) (h:opd t x=some v):v.sc q=true:=by
 unfold opd at h
 cases x with
 | tmp i=>exact ze.1 hs v (List.mem_of_getElem? h)
 | const v'=>exact (Jy (w:=default) (N:=fun _=>True) (ρ:=default) h).2 q
 | global g =>
  obtain ⟨cs,hg,rfl⟩:=Option.map_eq_some_iff.1 h
  rfl
 | func f=>cases h;rfl
end Go.Ev
namespace Go.Ev
open Go.RowKit
variable [qo]
theorem zcV {w:World} {N:Nat → Prop} {ρ:Nat → Pl} {a a':AV} {x:Value} {n:Nat} (ha:zo w N ρ a x) (h:zmj a n=some a') :
  ∃ ad,x = .pointer (some ad) ∧ zo w N ρ a' (.pointer (some (ad.add n))) ∧ ∀ q,a.sc q=true → a'.sc q=true:=by
 cases ha <;> simp only [zmj] at h <;> try cases h
 case ptr id off=>exact ⟨_,rfl,by rw [add_plain,Nat.add_assoc];exact .ptr id (off + n),fun q hq=>hq⟩
 case er id j i=>exact ⟨_,rfl,by rw [add_plain,Nat.add_assoc,Nat.add_assoc];exact .er id j (i + n),fun q hq=>hq⟩
 case rd cs b o hN hc =>
  split at h
  ·cases h
   refine ⟨_,rfl,?_,fun q hq=>rfl⟩
   rw [add_plain]
   refine .rd _ b (o + n) hN fun i hi=>?_
   obtain ⟨y,hy,hr⟩:=hc (n + i) (by simp at hi;omega)
   exact ⟨y,by rw [Nat.add_assoc];exact hy,by simpa using hr⟩
  ·cases h
theorem zo.int_eq {w:World} {N:Nat → Prop} {ρ:Nat → Pl} {k:IntKind} {n:Int} {x:Value} (h:zo w N ρ (.c (.int k n)) x):x = .int k n:=by
 cases h with | c h=>cases h;rfl
theorem zo.xH {w:World} {N:Nat → Prop} {ρ:Nat → Pl} {b:Bool} {x:Value} (h:zo w N ρ (.c (.bool b)) x):x = .bool b:=by
 cases h with | c h=>cases h;rfl
theorem zo.vH {w:World} {N:Nat → Prop} {ρ:Nat → Pl} {s:ByteArray} {x:Value} (h:zo w N ρ (.c (.str s)) x):x = .string s:=by
 cases h with | c h=>cases h;rfl
theorem zo.Qy {w:World} {N:Nat → Prop} {ρ:Nat → Pl} {x:Value} (h:zo w N ρ (.c .nl) x):x = .slice none 0 0:=by
 cases h with | c h=>cases h;rfl
section
variable {P:Program} {E:Env} (T:zE P E) {w:World} {N:Nat → Prop} {ρ:Nat → Pl} {h:List zf} (H:zw N h ρ w)
include T
omit H in
theorem Wy {s:TypeId} {a v:AV} {f:Nat} {x:Value} (ha:zo w N ρ a x) (h:XT E s a f=some v) :
  ∃ y,(Instr.fieldAt s x f).run P w = .ok y w ∧ zo w N ρ v y ∧ ∀ q,a.sc q=true → v.sc q=true:=by
 unfold XT at h
 split at h
 ·rename_i fs hu
  split at h
  ·rename_i fd hf
   split at h
   ·rename_i n hn
    split at h
    ·cases h
    ·rename_i hz
     obtain ⟨ad,rfl,hr,hs⟩:=zcV ha h
     refine ⟨_,?_,hr,hs⟩
     simp [Instr.fieldAt,T.zt hu,hf,Instr.sureAddr,fieldPlace,T.zM hn,hz]
   ·cases h
  ·cases h
 ·cases h
include H in
theorem Qw {t:TypeId} {x ix v:AV} {X I:Value} (hx:zo w N ρ x X) (hi:zo w N ρ ix I) (hv:kU E t x ix h=some v) :
  ∃ y,(Instr.indexAt t X I).run P w = .ok y w ∧ zo w N ρ v y ∧ ∀ q,x.sc q=true → v.sc q=true:=by
 unfold kU at hv
 split at hv
 ·rename_i e sz q xs k i hu
  split at hv
  ·rename_i hc
   obtain ⟨hsz,hz,h0,hlt⟩:=hc
   obtain ⟨el,hel,rfl⟩:=Option.map_eq_some_iff.1 hv
   cases hi.int_eq
   cases hx with | c hx =>
   cases hx with
   | lst _ _ _ A c V hxx hcc hm hszs hcell hrep =>
    obtain ⟨hjl,rfl⟩:=List.getElem?_eq_some_iff.1 hel
    obtain ⟨b,o,rfl,hN,_⟩:=hcell i.toNat 0 hjl hz
    refine ⟨.pointer (some ⟨b,o + i.toNat * sz,none⟩),?_,.rd _ b _ hN fun j hj=>?_,fun _ _=>rfl⟩
    ·simp [Instr.indexAt,asIntOf,T.zt hu,T.zM hsz,h0,hlt,add_plain]
    ·have hl:=hszs _ (List.getElem_mem hjl)
     obtain ⟨b',o',he,hN',hv⟩:=hcell i.toNat j hjl (by omega)
     simp only [Option.some.injEq,Addr.mk.injEq,and_true] at he
     obtain ⟨rfl,rfl⟩:=he
     exact ⟨_,by rw [Nat.add_assoc];exact hv,hrep _ _ _ _⟩
  ·cases hv
 ·rename_i e id off len k i hu
  split at hv
  ·rename_i sz e' xs hb
   split at hv
   ·rename_i hc
    obtain ⟨hsz,h0,hlt⟩:=hc
    cases hv
    cases hi.int_eq
    cases hx with
    | sn _ hp=>omega
    | sl _ _ _ cap o hp ho h1 h2 hm =>
     have hk:=(H.own id _ hb).1
     have ho':=ho (by omega)
     refine ⟨.pointer (some ⟨(ρ id).b,o + i.toNat * sz,none⟩),?_,?_,fun _ hq=>hq⟩
     ·simp [Instr.indexAt,asIntOf,T.zt hu,T.zM hsz,h0,hlt,add_plain]
     ·have:=zo.er (w:=w) (N:=N) (ρ:=ρ) id (off + i.toNat) 0
      rw [hk,Nat.add_zero,Nat.add_mul,← Nat.add_assoc] at this
      rw [ho',hk];exact this
   ·cases hv
  ·rename_i sz e' xs hb
   split at hv
   ·rename_i hc
    obtain ⟨hsz,h0,hlt⟩:=hc
    cases hv
    cases hi.int_eq
    cases hx with
    | sn _ hp=>omega
    | sl _ _ _ cap o hp ho h1 h2 hm =>
     have hk:=(H.own id _ hb).1
     have ho':=ho (by omega)
     refine ⟨.pointer (some ⟨(ρ id).b,o + i.toNat * sz,none⟩),?_,?_,fun _ hq=>hq⟩
     ·simp [Instr.indexAt,asIntOf,T.zt hu,T.zM hsz,h0,hlt,add_plain]
     ·have:=zo.er (w:=w) (N:=N) (ρ:=ρ) id (off + i.toNat) 0
      rw [hk,Nat.add_zero,Nat.add_mul,← Nat.add_assoc] at this
      rw [ho',hk];exact this
   ·cases hv
  ·cases hv
 ·rename_i n e id off k i hu
  split at hv
  ·rename_i sz hsz
   split at hv
   ·rename_i hc
    obtain ⟨h0,hlt⟩:=hc
    cases hv
    cases hi.int_eq
    cases hx with
    | ptr _ _ =>
     refine ⟨_,?_,.ptr id _,fun _ hq=>hq⟩
     simp [Instr.indexAt,asIntOf,T.zt hu,T.zM hsz,h0,hlt,Instr.sureAddr,add_plain,Nat.add_assoc]
   ·cases hv
  ·cases hv
 ·rename_i n e id j off k i hu
  split at hv
  ·rename_i sz hsz
   split at hv
   ·rename_i hc
    obtain ⟨h0,hlt⟩:=hc
    cases hv
    cases hi.int_eq
    cases hx with
    | er _ _ _ =>
     refine ⟨_,?_,.er id j _,fun _ hq=>hq⟩
     simp [Instr.indexAt,asIntOf,T.zt hu,T.zM hsz,h0,hlt,Instr.sureAddr,add_plain,Nat.add_assoc]
   ·cases hv
  ·cases hv
 ·rename_i n e cs k i hu
  split at hv
  ·rename_i sz hsz
   split at hv
   ·rename_i hc
    obtain ⟨h0,hlt⟩:=hc
    cases hv
    cases hi.int_eq
    cases hx with
    | rd _ b o hN hcl =>
     refine ⟨.pointer (some ⟨b,o + i.toNat * sz,none⟩),?_,.rd _ b _ hN fun j hj=>?_,fun _ hq=>rfl⟩
     ·simp [Instr.indexAt,asIntOf,T.zt hu,T.zM hsz,h0,hlt,Instr.sureAddr,add_plain]
     ·simp only [List.length_drop] at hj
      obtain ⟨x,hx,hr⟩:=hcl (i.toNat * sz + j) (by omega)
      exact ⟨x,by rw [Nat.add_assoc];exact hx,by simpa using hr⟩
   ·cases hv
  ·cases hv
 ·cases hv
end
end Go.Ev
namespace Go.Ev
open Go.RowKit
variable [qo]
section
variable {P:Program} {E:Env} (T:zE P E) {w:World} {N:Nat → Prop} {ρ:Nat → Pl}
include T
theorem Km {t:TypeId} {us:List AV} {xs:List Value} {v:AV} {off:Nat} (hl:us.length=xs.length) (hr:∀ (i:Nat) (a:i < us.length) (b:i < xs.length),zo w N ρ us[i] xs[i]) (h:zgn E t us off=some v) :
  ∃ y,(part t xs.toArray off).run P w = .ok y w ∧ zo w N ρ v y ∧ ∀ q,AV.sc.scAll q us=true → v.sc q=true:=by
 unfold zgn at h
 split at h
 ·rename_i n ha hn
  split at h
  ·rename_i hle
   cases h
   refine ⟨.agg ((xs.drop off).take n).toArray,?_,.agg _ _ (by simp [hl]) fun i a b=>?_,fun q hq=>?_⟩
   ·simp only [part,Sem.run_bind,T.jX ha,Result.andThen_ok,if_true,T.zM hn,Sem.run_pure]
    congr 2
    apply Array.toList_inj.1
    simp
   ·simp only [List.length_take,List.length_drop] at a b
    have:=hr (off + i) (by omega) (by omega)
    simpa using this
   ·simp only [AV.sc];exact KV (yA hq off) n
  ·cases h
 ·rename_i n ha hn
  obtain ⟨h1,e1⟩:=List.getElem?_eq_some_iff.1 h
  have:=hr off h1 (by omega)
  rw [e1] at this
  refine ⟨xs[off]'(by omega),?_,this,fun q hq=>ze.1 hq _ (by rw [← e1];exact List.getElem_mem h1)⟩
  simp only [part,Sem.run_bind,T.jX ha,Result.andThen_ok,Bool.false_eq_true,if_false]
  simp [show off < xs.length by omega]
 ·cases h
theorem J6 {t:TypeId} {x v:AV} {f:Nat} {X:Value} (hx:zo w N ρ x X) (h:Kp E t x f=some v) :
  ∃ y,(Instr.field t X f).run P w = .ok y w ∧ zo w N ρ v y ∧ ∀ q,x.sc q=true → v.sc q=true:=by
 unfold Kp at h
 split at h
 ·rename_i fs vs hu
  split at h
  ·rename_i fd hf
   cases hx with | agg _ xs hl hr =>
   obtain ⟨y,hy,hry,hs⟩:=Km T hl hr h
   exact ⟨y,by simp [Instr.field,T.zt hu,hf,hy,asAgg],hry,fun q hq=>hs q hq⟩
  ·cases h
 ·cases h
theorem W0 {t:TypeId} {x ix v:AV} {X I:Value} (hx:zo w N ρ x X) (hi:zo w N ρ ix I) (h:XK E t x ix=some v) :
  ∃ y,(Instr.index t X I).run P w = .ok y w ∧ zo w N ρ v y ∧ ∀ q,x.sc q=true → v.sc q=true:=by
 unfold XK at h
 split at h
 ·rename_i n e vs k i hu
  split at h
  ·rename_i sz hsz
   split at h
   ·rename_i h0
    cases hi.int_eq
    cases hx with | agg _ xs hl hr =>
    obtain ⟨y,hy,hry,hs⟩:=Km T hl hr h
    exact ⟨y,by simp [Instr.index,asIntOf,T.zt hu,h0,T.zM hsz,hy],hry,fun q hq=>hs q hq⟩
   ·cases h
  ·cases h
 ·rename_i s k i hu
  cases hi.int_eq;cases hx.vH
  split at h
  ·rename_i h0
   obtain ⟨b,hb,rfl⟩:=Option.map_eq_some_iff.1 h
   exact ⟨_,by simp [Instr.index,asIntOf,T.zt hu,h0,hb],.c (.int _ _),fun _ _=>rfl⟩
  ·cases h
 ·cases h
theorem zdi {t:TypeId} {x v:AV} {X:Value} (hx:zo w N ρ x X) (h:zmp E t x=some v) (ts:Array TypeId) (ht:ts[0]?=some t) (us:Array Value) (hus:us[0]?=some X) (ty:TypeId) :
  ∃ y,(Builtin.len_ ts ty us).run P w = .ok y w ∧ zo w N ρ v y ∧ ∀ q,v.sc q=true:=by
 unfold zmp at h
 split at h
 ·rename_i s hu
  cases h;cases hx.vH
  exact ⟨_,by simp [Builtin.len_,ht,hus,T.zt hu,goInt],.c (.int _ _),fun _=>rfl⟩
 ·rename_i e sz q xs hu
  cases h
  cases hx with | c hx =>
  cases hx with
  | lst=>exact ⟨_,by simp [Builtin.len_,ht,hus,T.zt hu,goInt],.c (.int _ _),fun _=>rfl⟩
 ·rename_i e hu
  cases h;cases hx.Qy
  exact ⟨_,by simp [Builtin.len_,ht,hus,T.zt hu,goInt],.c (.int _ _),fun _=>rfl⟩
 ·rename_i e _ hu
  cases h
  cases hx with | c hx =>
  cases hx
  exact ⟨_,by simp [Builtin.len_,ht,hus,T.zt hu,goInt],.c (.int _ _),fun _=>rfl⟩
 ·rename_i e id off len hu
  cases h
  cases hx with
  | sn=>exact ⟨_,by simp [Builtin.len_,ht,hus,T.zt hu,goInt],.c (.int _ _),fun _=>rfl⟩
  | sl=>exact ⟨_,by simp [Builtin.len_,ht,hus,T.zt hu,goInt],.c (.int _ _),fun _=>rfl⟩
 ·rename_i n e hu
  cases h
  exact ⟨.int .i64 n,by simp [Builtin.len_,ht,hus,T.zt hu,goInt],.c (.int _ _),fun _=>rfl⟩
 ·cases h
omit T in
theorem zP {x:Option AV} {X:Option Value} {d top:Nat} {n:Nat} (h:vG x d top=some n) (hn:x=none → X=none) (hx:∀ v,x=some v → ∃ y,X=some y ∧ zo w N ρ v y) (y':Nat) (hy:top ≤ y') :
  (X=none ∧ n=d) ∨ (∃ k i,X=some (.int k i) ∧ n=i.toNat ∧ n ≤ top ∧ ∀ c,(Instr.sliceBound (.int k i) y' c).run P w = .ok n w):=by
 unfold vG at h
 split at h
 ·cases h;exact .inl ⟨hn rfl,rfl⟩
 ·rename_i k i
  split at h
  ·rename_i hc
   cases h
   obtain ⟨y,hX,hr⟩:=hx _ rfl
   cases hr.int_eq
   refine .inr ⟨k,i,hX,rfl,by omega,fun c=>?_⟩
   simp [Instr.sliceBound,asIntOf,show (0 ≤ i ∧ i ≤ (y':Int)) from ⟨hc.1,by omega⟩]
  ·cases h
 ·cases h
end
theorem qi {P:Program} {w:World} {b:Bool} {len cap:Nat} {lo hi:Option Value} {l h:Nat}
  (hh:(hi=none ∧ h=len) ∨ (∃ v,hi=some v ∧ ∀ c,(Instr.sliceBound v cap c).run P w = .ok h w))
  (hl:(lo=none ∧ l=0) ∨ (∃ v,lo=some v ∧ ∀ c,(Instr.sliceBound v h c).run P w = .ok l w)) :
  (Instr.sliceBounds b len cap lo hi none).run P w = .ok (l,h,cap) w:=by
 rcases hh with ⟨rfl,rfl⟩ | ⟨v,rfl,hv⟩ <;> rcases hl with ⟨rfl,rfl⟩ | ⟨u,rfl,hu⟩ <;> cases b <;> simp [Instr.sliceBounds, *]
section
variable {P:Program} {E:Env} (T:zE P E) {w:World} {N:Nat → Prop} {ρ:Nat → Pl} {h:List zf} (H:zw N h ρ w)
include T H
theorem XQ {t:TypeId} {x v:AV} {lo hi:Option AV} {X:Value} {Lo Hi:Option Value} (hx:zo w N ρ x X)
  (hlo:lo=none → Lo=none) (hlo':∀ u,lo=some u → ∃ y,Lo=some y ∧ zo w N ρ u y) (hhi:hi=none → Hi=none) (hhi':∀ u,hi=some u → ∃ y,Hi=some y ∧ zo w N ρ u y)
  (hv:Qe E t x lo hi h=some v) :
  ∃ y,(Instr.sliceAt t X Lo Hi none).run P w = .ok y w ∧ zo w N ρ v y ∧ ∀ q,x.sc q=true → v.sc q=true:=by
 unfold Qe at hv
 split at hv
 ·rename_i s hu
  cases hx.vH
  split at hv
  ·rename_i b hb
   obtain ⟨a,ha,rfl⟩:=Option.map_eq_some_iff.1 hv
   have h1:=zP (P:=P) (X:=Hi) hb hhi hhi' s.size (Nat.le_refl _)
   have h2:=zP (P:=P) (X:=Lo) ha hlo hlo' b (Nat.le_refl _)
   have hs:(Instr.sliceBounds false s.size s.size Lo Hi none).run P w = .ok (a,b,s.size) w:=qi
    (h1.imp (fun z=>z) fun ⟨k,i,e,_,_,hr⟩=>⟨_,e,hr⟩) (h2.imp (fun z=>z) fun ⟨k,i,e,_,_,hr⟩=>⟨_,e,hr⟩)
   exact ⟨_,by simp [Instr.sliceAt,Instr.slice,T.zt hu,hs],.c (.str _),fun _ _=>rfl⟩
  ·cases hv
 ·rename_i e sz q xs hu
  split at hv
  ·rename_i hsz
   split at hv
   ·rename_i b hb
    obtain ⟨a,ha,rfl⟩:=Option.map_eq_some_iff.1 hv
    cases hx with | c hx =>
    cases hx with
    | lst _ _ _ A c V hxx hcc hm hszs hcell hrep =>
     have h1:=zP (P:=P) (X:=Hi) hb hhi hhi' c hcc
     have h2:=zP (P:=P) (X:=Lo) ha hlo hlo' b (Nat.le_refl _)
     have hs:(Instr.sliceBounds true xs.length c Lo Hi none).run P w = .ok (a,b,c) w:=qi
      (h1.imp (fun z=>z) fun ⟨k,i,e,_,_,hr⟩=>⟨_,e,hr⟩) (h2.imp (fun z=>z) fun ⟨k,i,e,_,_,hr⟩=>⟨_,e,hr⟩)
     have hbl:b ≤ xs.length:=by rcases h1 with ⟨_,h⟩ | ⟨_,_,_,_,h,_⟩ <;> omega
     have hab:a ≤ b:=by rcases h2 with ⟨_,h⟩ | ⟨_,_,_,_,h,_⟩ <;> omega
     have hlen:((xs.take b).drop a).length=b - a:=by simp;omega
     refine ⟨.slice (if c=a then A else A.map (·.add (a * sz))) (b - a) (c - a),by simp [Instr.sliceAt,Instr.slice,T.zt hu,hs,T.zM hsz],?_,fun _ _=>rfl⟩
     have key:=kX.lst (w:=w) (N:=N) sz (q && decide (b=xs.length)) ((xs.take b).drop a) (if c=a then A else A.map (·.add (a * sz))) (c - a) (fun j i=>V (a + j) i)
      (fun hq=>by simp at hq;rw [hlen,hxx hq.1];omega) (by rw [hlen];omega) (by omega) (fun e he=>hszs e (List.mem_of_mem_take (List.mem_of_mem_drop he)))
      (fun j i hj hi=>by
       rw [hlen] at hj
       obtain ⟨b',o,rfl,hN,hv'⟩:=hcell (a + j) i (by omega) hi
       refine ⟨b',o + a * sz,?_,hN,?_⟩
       ·rw [if_neg (by omega)];simp [add_plain]
       ·rw [Nat.add_mul,← Nat.add_assoc,← Nat.add_assoc] at hv'
        rw [← Nat.add_assoc];exact hv')
      (fun j i hj hi=>by
       rw [hlen] at hj
       have hj2:a + j < xs.length:=by omega
       have e1:((xs.take b).drop a)[j]'(by rw [hlen];exact hj)=xs[a + j]:=by simp
       have hi2:i < (xs[a + j]).length:=by rw [← e1];exact hi
       have e2:=hrep (a + j) i hj2 hi2
       simpa [e1] using e2)
     rw [hlen] at key
     exact .c key
   ·cases hv
  ·cases hv
 ·rename_i e hu
  cases hx.Qy
  split at hv
  ·rename_i hsz
   obtain ⟨sz,hsz⟩:=Option.isSome_iff_exists.1 hsz
   split at hv
   ·rename_i b hb
    obtain ⟨a,ha,rfl⟩:=Option.map_eq_some_iff.1 hv
    have h1:=zP (P:=P) (X:=Hi) hb hhi hhi' 0 (Nat.le_refl _)
    have h2:=zP (P:=P) (X:=Lo) ha hlo hlo' b (Nat.le_refl _)
    have hs:(Instr.sliceBounds true 0 0 Lo Hi none).run P w = .ok (a,b,0) w:=qi
     (h1.imp (fun z=>z) fun ⟨k,i,e,_,_,hr⟩=>⟨_,e,hr⟩) (h2.imp (fun z=>z) fun ⟨k,i,e,_,_,hr⟩=>⟨_,e,hr⟩)
    have hbl:b=0:=by rcases h1 with ⟨_,h⟩ | ⟨_,_,_,_,h,_⟩ <;> omega
    have hab:a=0:=by rcases h2 with ⟨_,h⟩ | ⟨_,_,_,_,h,_⟩ <;> omega
    subst hbl hab
    exact ⟨_,by simp [Instr.sliceAt,Instr.slice,T.zt hu,hs,T.zM hsz],.c .nl,fun _ _=>rfl⟩
   ·cases hv
  ·cases hv
 ·rename_i e id off len hu
  split at hv
  ·rename_i sz e' xs hb'
   split at hv
   ·rename_i hsz
    split at hv
    ·rename_i b hb
     obtain ⟨a,ha,rfl⟩:=Option.map_eq_some_iff.1 hv
     cases hx with
     | sn _ hp =>
      have h1:=zP (P:=P) (X:=Hi) hb hhi hhi' 0 (Nat.le_refl _)
      have h2:=zP (P:=P) (X:=Lo) ha hlo hlo' b (Nat.le_refl _)
      have hs:(Instr.sliceBounds true 0 0 Lo Hi none).run P w = .ok (a,b,0) w:=qi
       (h1.imp (fun z=>z) fun ⟨k,i,e,_,_,hr⟩=>⟨_,e,hr⟩) (h2.imp (fun z=>z) fun ⟨k,i,e,_,_,hr⟩=>⟨_,e,hr⟩)
      have hbl:b=0:=by rcases h1 with ⟨_,h⟩ | ⟨_,_,_,_,h,_⟩ <;> omega
      have hab:a=0:=by rcases h2 with ⟨_,h⟩ | ⟨_,_,_,_,h,_⟩ <;> omega
      subst hbl hab
      exact ⟨.slice none 0 0,by simp [Instr.sliceAt,Instr.slice,T.zt hu,hs,T.zM hsz],.sn id hp,fun _ hq=>hq⟩
     | sl _ _ _ c o hp ho hh1 hh2 hm =>
      have hk:=(H.own id _ hb').1
      have h1:=zP (P:=P) (X:=Hi) hb hhi hhi' c hh1
      have h2:=zP (P:=P) (X:=Lo) ha hlo hlo' b (Nat.le_refl _)
      have hs:(Instr.sliceBounds true len c Lo Hi none).run P w = .ok (a,b,c) w:=qi
       (h1.imp (fun z=>z) fun ⟨k,i,e,_,_,hr⟩=>⟨_,e,hr⟩) (h2.imp (fun z=>z) fun ⟨k,i,e,_,_,hr⟩=>⟨_,e,hr⟩)
      have hbl:b ≤ len:=by rcases h1 with ⟨_,h⟩ | ⟨_,_,_,_,h,_⟩ <;> omega
      have hab:a ≤ b:=by rcases h2 with ⟨_,h⟩ | ⟨_,_,_,_,h,_⟩ <;> omega
      refine ⟨.slice (some (if c=a then ⟨(ρ id).b,o,none⟩ else ⟨(ρ id).b,o + a * sz,none⟩)) (b - a) (c - a),?_,?_,fun _ hq=>hq⟩
      ·simp only [Instr.sliceAt,Instr.slice,T.zt hu,hs,T.zM hsz,Sem.run_bind,Result.andThen_ok,Sem.run_pure,Option.map_some,add_plain]
       split <;> rfl
      ·have h3:(ρ id).base + ((off + a) + (c - a)) * (ρ id).sz ≤ (ρ id).size:=by rw [Nat.add_assoc off a,Nat.add_sub_cancel' (by omega:a ≤ c)];exact hh2
       split
       ·exact .sl id (off + a) (b - a) (c - a) o hp (fun hc=>absurd (by omega) hc) (by omega) h3 (by omega)
       ·refine .sl id (off + a) (b - a) (c - a) _ hp (fun _=>?_) (by omega) h3 (by omega)
        rw [ho (by omega),hk,Nat.add_mul,Nat.add_assoc]
    ·cases hv
   ·cases hv
  ·rename_i sz e' xs hb'
   split at hv
   ·rename_i hsz
    split at hv
    ·rename_i b hb
     obtain ⟨a,ha,rfl⟩:=Option.map_eq_some_iff.1 hv
     cases hx with
     | sn _ hp =>
      have h1:=zP (P:=P) (X:=Hi) hb hhi hhi' 0 (Nat.le_refl _)
      have h2:=zP (P:=P) (X:=Lo) ha hlo hlo' b (Nat.le_refl _)
      have hs:(Instr.sliceBounds true 0 0 Lo Hi none).run P w = .ok (a,b,0) w:=qi
       (h1.imp (fun z=>z) fun ⟨k,i,e,_,_,hr⟩=>⟨_,e,hr⟩) (h2.imp (fun z=>z) fun ⟨k,i,e,_,_,hr⟩=>⟨_,e,hr⟩)
      have hbl:b=0:=by rcases h1 with ⟨_,h⟩ | ⟨_,_,_,_,h,_⟩ <;> omega
      have hab:a=0:=by rcases h2 with ⟨_,h⟩ | ⟨_,_,_,_,h,_⟩ <;> omega
      subst hbl hab
      exact ⟨.slice none 0 0,by simp [Instr.sliceAt,Instr.slice,T.zt hu,hs,T.zM hsz],.sn id hp,fun _ hq=>hq⟩
     | sl _ _ _ c o hp ho hh1 hh2 hm =>
      have hk:=(H.own id _ hb').1
      have h1:=zP (P:=P) (X:=Hi) hb hhi hhi' c hh1
      have h2:=zP (P:=P) (X:=Lo) ha hlo hlo' b (Nat.le_refl _)
      have hs:(Instr.sliceBounds true len c Lo Hi none).run P w = .ok (a,b,c) w:=qi
       (h1.imp (fun z=>z) fun ⟨k,i,e,_,_,hr⟩=>⟨_,e,hr⟩) (h2.imp (fun z=>z) fun ⟨k,i,e,_,_,hr⟩=>⟨_,e,hr⟩)
      have hbl:b ≤ len:=by rcases h1 with ⟨_,h⟩ | ⟨_,_,_,_,h,_⟩ <;> omega
      have hab:a ≤ b:=by rcases h2 with ⟨_,h⟩ | ⟨_,_,_,_,h,_⟩ <;> omega
      refine ⟨.slice (some (if c=a then ⟨(ρ id).b,o,none⟩ else ⟨(ρ id).b,o + a * sz,none⟩)) (b - a) (c - a),?_,?_,fun _ hq=>hq⟩
      ·simp only [Instr.sliceAt,Instr.slice,T.zt hu,hs,T.zM hsz,Sem.run_bind,Result.andThen_ok,Sem.run_pure,Option.map_some,add_plain]
       split <;> rfl
      ·have h3:(ρ id).base + ((off + a) + (c - a)) * (ρ id).sz ≤ (ρ id).size:=by rw [Nat.add_assoc off a,Nat.add_sub_cancel' (by omega:a ≤ c)];exact hh2
       split
       ·exact .sl id (off + a) (b - a) (c - a) o hp (fun hc=>absurd (by omega) hc) (by omega) h3 (by omega)
       ·refine .sl id (off + a) (b - a) (c - a) _ hp (fun _=>?_) (by omega) h3 (by omega)
        rw [ho (by omega),hk,Nat.add_mul,Nat.add_assoc]
    ·cases hv
   ·cases hv
  ·cases hv
 ·cases hv
theorem JV {t:TypeId} {x v:AV} {X:Value} {k k':IntKind} (hx:zo w N ρ x X) (hv:Ko E t x=some v) :
  ∃ y,(Instr.sliceAt t X none (some (.int k 0)) (some (.int k' 0))).run P w = .ok y w ∧ zo w N ρ v y ∧ ∀ q,v.sc q=true:=by
 have hb:∀ len cap:Nat,(Instr.sliceBounds true len cap none (some (.int k 0)) (some (.int k' 0))).run P w = .ok (0,0,0) w:=fun len cap=>by
  simp [Instr.sliceBounds,Instr.sliceBound,asIntOf]
 unfold Ko at hv
 split at hv
 ·rename_i e sz q xs hu
  split at hv
  ·rename_i hsz
   cases hv
   cases hx with | c hx =>
   cases hx with
   | lst _ _ _ A c V hxx hcc hm hszs hcell hrep =>
    refine ⟨.slice A 0 0,by simp [Instr.sliceAt,Instr.slice,T.zt hu,hb,T.zM hsz],?_,fun _=>rfl⟩
    exact .c (kX.lst sz true [] A 0 (fun _ _=>undef) (fun _=>rfl) (by simp) (by omega) (by simp) (fun j i hj=>absurd hj (by simp)) (fun j i hj=>absurd hj (by simp)))
  ·cases hv
 ·rename_i e hu
  obtain ⟨sz,hsz,rfl⟩:=Option.map_eq_some_iff.1 hv
  cases hx.Qy
  exact ⟨.slice none 0 0,by simp [Instr.sliceAt,Instr.slice,T.zt hu,hb,T.zM hsz],.c .nl,fun _=>rfl⟩
 ·rename_i e id off len hu
  obtain ⟨sz,hsz,rfl⟩:=Option.map_eq_some_iff.1 hv
  have key:∀ A,zo w N ρ (.c (.lst sz true [])) (.slice A 0 0):=fun A =>
   .c (kX.lst sz true [] A 0 (fun _ _=>undef) (fun _=>rfl) (by simp) (by omega) (by simp) (fun j i hj=>absurd hj (by simp)) (fun j i hj=>absurd hj (by simp)))
  cases hx with
  | sn _ hp=>exact ⟨.slice none 0 0,by simp [Instr.sliceAt,Instr.slice,T.zt hu,hb,T.zM hsz],key _,fun _=>rfl⟩
  | sl _ _ _ c o hp ho hh1 hh2 hm=>exact ⟨.slice (some ⟨(ρ id).b,o,none⟩) 0 0,by simp [Instr.sliceAt,Instr.slice,T.zt hu,hb,T.zM hsz],key _,fun _=>rfl⟩
 ·cases hv
end
end Go.Ev
namespace Go.Ev
open Go.RowKit
variable [qo]
theorem zco {P:Program} {w:World} {op:BinOp} {t:TypeId} {k:IntKind} {a b:Int} {c:CV} (h:zmo op k a b=some c) (hs:op ≠ .shl) (hr:op ≠ .shr) :
  ∃ y,(binOp op t (.int k a) (.int k b)).run P w = .ok y w ∧ ∀ N,kX w N c y:=by
 cases op <;> simp only [zmo] at h <;> try contradiction
 case quo =>
  split at h
  ·cases h
  ·rename_i hb
   cases h
   exact ⟨_,by simp [binOp,Op.intDiv,hb],fun N=>.int _ _⟩
 case rem =>
  split at h
  ·cases h
  ·rename_i hb
   cases h
   exact ⟨_,by simp [binOp,Op.intDiv,hb],fun N=>.int _ _⟩
 case add | sub | mul=>cases h;exact ⟨_,by simp [binOp,Op.intArith],fun N=>.int _ _⟩
 case and | or | xor | andNot=>cases h;exact ⟨_,by simp [binOp];rfl,fun N=>.int _ _⟩
 all_goals
  cases h
  exact ⟨_,by simp [binOp,Op.intCmp],fun N=>.bool _⟩
theorem Qr {P:Program} {w:World} {op:BinOp} {t:TypeId} {k k':IntKind} {a b:Int} {c:CV} (h:zbB op k a b=some c) :
  ∃ y,(binOp op t (.int k a) (.int k' b)).run P w = .ok y w ∧ ∀ N,kX w N c y:=by
 unfold zbB at h
 split at h
 ·cases h
 ·rename_i hb
  cases op <;> simp only at h <;> try contradiction
  all_goals
   cases h
   exact ⟨_,by simp [binOp,Op.shift,hb],fun N=>.int _ _⟩
theorem zc1 {P:Program} {w:World} {op:BinOp} {t:TypeId} {a b:ByteArray} {c:CV} (h:zmm op a b=some c) :
  ∃ y,(binOp op t (.string a) (.string b)).run P w = .ok y w ∧ ∀ N,kX w N c y:=by
 cases op <;> simp only [zmm] at h <;> try contradiction
 case add =>
  split at h
  ·rename_i hl
   cases h
   have:¬ ((a.size + b.size:Nat):Int) > IntKind.i64.max:=by
    have:IntKind.i64.max=9223372036854775807:=by decide
    omega
   refine ⟨.string (a ++ b),?_,fun N=>.str _⟩
   simp only [binOp,Op.stringOp,this,if_false,Sem.run_pure]
  ·cases h
 all_goals
  cases h
  exact ⟨_,by simp only [binOp,Op.stringOp,Sem.run_pure],fun N=>.bool _⟩
theorem kZ {P:Program} {w:World} {op:BinOp} {t:TypeId} {x y:Operand} {a b:Value} (h:∀ u v,¬ (a = .agg u ∧ b = .agg v)) (h2:¬ (a = .nilIface ∧ b = .nilIface)):(eqGuard op t x y a b).run P w = .ok () w:=by
 unfold eqGuard
 cases op <;> simp only [Bool.not_true,Bool.not_false,Bool.false_eq_true,if_true,if_false] <;> first
  | rfl
  | (split <;> first | exact absurd ⟨rfl,rfl⟩ h2 | exact absurd ⟨rfl,rfl⟩ (h _ _) | rfl)
theorem Jf {P:Program} {w:World} {t:TypeId} (hu:P.underlying t=some .bool) (x y:Bool):(Op.equal t (.bool x) (.bool y)).run P w = .ok (x == y) w:=by
 show (Op.equalIn (9999 + 1) t (.bool x) (.bool y)).run P w=_
 rw [Op.equalIn]
 simp only [Sem.run_bind,run_underlying hu,Result.andThen_ok,Sem.run_pure]
section
variable {P:Program} {E:Env} (T:zE P E) {w:World} {N:Nat → Prop} {ρ:Nat → Pl}
include T
theorem vy {t:TypeId} {a:AV} {X:Value} {n:Bool} (ha:zo w N ρ a X) (h:Q7 E t a=some n) :
  (∃ e A l c,P.underlying t=some (.slice e) ∧ X = .slice A l c ∧ A.isNone=n) ∨ (∃ p r v,P.underlying t=some (.func p r v) ∧ ((X = .nilFunc ∧ n=true) ∨ (∃ f g k,X = .func f g k) ∧ n=false)) ∨
  (∃ e A,P.underlying t=some (.pointer e) ∧ X = .pointer A ∧ A.isNone=n):=by
 unfold Q7 at h
 split at h
 ·rename_i e hu
  cases h;cases ha with | c ha=>cases ha;exact .inl ⟨e,none,0,0,T.und _ _ hu,rfl,rfl⟩
 ·rename_i e sz q y ys hu
  split at h
  ·rename_i hp
   cases h;cases ha with | c ha =>
   cases ha with
   | lst _ _ _ A c V hx hc hm hsz hcell hrep =>
    obtain ⟨b,o,hA,_⟩:=hcell 0 0 (by simp) hp
    exact .inl ⟨e,A,_,c,T.und _ _ hu,rfl,by rw [hA];rfl⟩
  ·cases h
 ·rename_i e id off len hu
  cases h
  cases ha with
  | sl _ _ _ cap o hp ho h1 h2 hm=>exact .inl ⟨e,_,_,cap,T.und _ _ hu,rfl,rfl⟩
 ·rename_i p r v hu
  cases h;cases ha with | c ha=>cases ha;exact .inr (.inl ⟨p,r,v,T.und _ _ hu,.inl ⟨rfl,rfl⟩⟩)
 ·rename_i p r v f cs hu
  cases h;cases ha with | c ha=>cases ha with | fn _ _ vs=>exact .inr (.inl ⟨p,r,v,T.und _ _ hu,.inr ⟨⟨_,_,_,rfl⟩,rfl⟩⟩)
 ·rename_i p r v f cs hu
  cases h;cases ha with | fn _ _ vs=>exact .inr (.inl ⟨p,r,v,T.und _ _ hu,.inr ⟨⟨_,_,_,rfl⟩,rfl⟩⟩)
 ·rename_i e hu
  cases h;cases ha with | c ha=>cases ha;exact .inr (.inr ⟨e,none,T.und _ _ hu,rfl,rfl⟩)
 ·rename_i e i o hu
  cases h;cases ha;exact .inr (.inr ⟨e,_,T.und _ _ hu,rfl,rfl⟩)
 ·rename_i e i o q hu
  cases h;cases ha;exact .inr (.inr ⟨e,_,T.und _ _ hu,rfl,rfl⟩)
 ·rename_i e cs hu
  cases h;cases ha;exact .inr (.inr ⟨e,_,T.und _ _ hu,rfl,rfl⟩)
 ·cases h
theorem X6 {t:TypeId} {a b:AV} {X Y:Value} {n:Bool} (ha:zo w N ρ a X) (hb:zo w N ρ b Y) (h:ziY (Q7 E t a) (Q7 E t b)=some n) :
  (Op.equal t X Y).run P w = .ok n w ∧ (∀ op x y,(eqGuard op t x y X Y).run P w = .ok () w) ∧ (binOp .eql t X Y).run P w = .ok (.bool n) w ∧ (binOp .neq t X Y).run P w = .ok (.bool !n) w:=by
 have key:∃ p q,Q7 E t a=some p ∧ Q7 E t b=some q ∧ ((p=true ∧ n=q) ∨ (q=true ∧ n=p)):=by
  cases hp:Q7 E t a with
  | none=>rw [hp] at h;cases h
  | some p =>
   cases hq:Q7 E t b with
   | none=>rw [hp,hq] at h;cases p <;> cases h
   | some q =>
    rw [hp,hq] at h
    cases p <;> cases q <;> simp [ziY] at h <;> subst h <;> simp
 obtain ⟨p,q,hp,hq,hn⟩:=key
 have he:(Op.equal t X Y).run P w = .ok n w:=by
  show (Op.equalIn (9999 + 1) t X Y).run P w=_
  generalize 9999=d
  rcases vy T ha hp with ⟨e,A,l,c,hu,rfl,hA⟩ | ⟨p1,r1,v1,hu,hX⟩ | ⟨e,A,hu,rfl,hA⟩
  ·rcases vy T hb hq with ⟨e',B,l',c',hu',rfl,hB⟩ | ⟨p1,r1,v1,hu',_⟩ | ⟨e',B,hu',_⟩
   ·cases A <;> cases B <;> simp at hA hB <;> subst hA hB <;> simp at hn <;> subst hn <;> simp [Op.equalIn,run_underlying hu]
   ·rw [hu] at hu';cases hu'
   ·rw [hu] at hu';cases hu'
  ·rcases vy T hb hq with ⟨e',B,l',c',hu',_⟩ | ⟨p1,r1,v1,hu',hY⟩ | ⟨e',B,hu',_⟩
   ·rw [hu] at hu';cases hu'
   ·rcases hX with ⟨rfl,rfl⟩ | ⟨⟨f,g,k,rfl⟩,rfl⟩ <;> rcases hY with ⟨rfl,rfl⟩ | ⟨⟨f',g',k',rfl⟩,rfl⟩ <;> simp at hn <;> subst hn <;> simp [Op.equalIn,run_underlying hu]
   ·rw [hu] at hu';cases hu'
  ·rcases vy T hb hq with ⟨e',B,l',c',hu',_⟩ | ⟨p1,r1,v1,hu',hY⟩ | ⟨e',B,hu',rfl,hB⟩
   ·rw [hu] at hu';cases hu'
   ·rw [hu] at hu';cases hu'
   ·cases A <;> cases B <;> simp at hA hB <;> subst hA hB <;> simp at hn <;> subst hn <;> simp [Op.equalIn,run_underlying hu]
 have hg:∀ op x y,(eqGuard op t x y X Y).run P w = .ok () w:=fun op x y=>by
  refine kZ ?_ ?_
  ·rintro u v ⟨rfl,rfl⟩
   rcases vy T ha hp with ⟨_,_,_,_,_,h,_⟩ | ⟨_,_,_,_,⟨h,_⟩ | ⟨⟨_,_,_,h⟩,_⟩⟩ | ⟨_,_,_,h,_⟩ <;> cases h
  ·rintro ⟨rfl,rfl⟩
   rcases vy T ha hp with ⟨_,_,_,_,_,h,_⟩ | ⟨_,_,_,_,⟨h,_⟩ | ⟨⟨_,_,_,h⟩,_⟩⟩ | ⟨_,_,_,h,_⟩ <;> cases h
 refine ⟨he,hg,?_,?_⟩
 ·rcases vy T ha hp with ⟨_,_,_,_,_,rfl,_⟩ | ⟨_,_,_,_,⟨rfl,_⟩ | ⟨⟨_,_,_,rfl⟩,_⟩⟩ | ⟨_,_,_,rfl,_⟩ <;> simp only [binOp] <;> simp [he]
 ·rcases vy T ha hp with ⟨_,_,_,_,_,rfl,_⟩ | ⟨_,_,_,_,⟨rfl,_⟩ | ⟨⟨_,_,_,rfl⟩,_⟩⟩ | ⟨_,_,_,rfl,_⟩ <;> simp only [binOp] <;> simp [he]
theorem YJ {t:TypeId} {a b:AV} {X Y:Value} {n:Bool} (ha:zo w N ρ a X) (hb:zo w N ρ b Y) (h:JX E t a b=some n) (d:Nat) :
  (Op.equalIn (d + 1) t X Y).run P w = .ok n w ∧ yO E t=some false:=by
 unfold JX at h
 split at h
 ·rename_i k0 k x k' y hu
  split at h
  ·rename_i hk;subst hk;cases h
   cases ha.int_eq;cases hb.int_eq
   exact ⟨run_equalIn_int w d t k k0 x y (T.und _ _ hu),by simp [yO,hu]⟩
  ·cases h
 ·rename_i x y hu
  cases h;cases ha.xH;cases hb.xH
  exact ⟨run_equalIn_bool w d t x y (T.und _ _ hu),by simp [yO,hu]⟩
 ·rename_i x y hu
  cases h;cases ha.vH;cases hb.vH
  exact ⟨run_equalIn_string w d t x y (T.und _ _ hu),by simp [yO,hu]⟩
 ·cases h
theorem xE {us vs:List AV} {xs ys:List Value} (hlu:us.length=xs.length) (hlv:vs.length=ys.length) (hu:∀ (i:Nat) (a:i < us.length) (b:i < xs.length),zo w N ρ us[i] xs[i]) (hv:∀ (i:Nat) (a:i < vs.length) (b:i < ys.length),zo w N ρ vs[i] ys[i]) (d:Nat):∀ (fs:List Field) (n:Bool),jH E us vs fs=some n → (Op.eqFields (d + 1) xs.toArray ys.toArray fs).run P w = .ok n w
 | [],n,h=>by simp [jH] at h;subst h;simp [Op.eqFields]
 | f :: fs,n,h=>by
  unfold jH at h
  unfold Op.eqFields
  split at h
  ·rename_i hf
   rw [if_pos hf]
   split at h
   ·rename_i u v hu' hv'
    split at h
    ·rename_i r q hr hq
     cases h
     obtain ⟨h1,e1⟩:=List.getElem?_eq_some_iff.1 hu'
     obtain ⟨h2,e2⟩:=List.getElem?_eq_some_iff.1 hv'
     have r1:=hu f.offset h1 (by omega)
     have r2:=hv f.offset h2 (by omega)
     rw [e1] at r1;rw [e2] at r2
     obtain ⟨g1,g2⟩:=YJ T r1 r2 hr d
     have ih:=xE hlu hlv hu hv d fs q hq
     have p1:(part f.type xs.toArray f.offset).run P w = .ok (xs[f.offset]'(by omega)) w:=by
      simp [part,T.jX g2,show f.offset < xs.length by omega]
     have p2:(part f.type ys.toArray f.offset).run P w = .ok (ys[f.offset]'(by omega)) w:=by
      simp [part,T.jX g2,show f.offset < ys.length by omega]
     simp only [Sem.run_bind,p1,p2,g1,Result.andThen_ok,Sem.run_ite]
     cases r
     ·simp
     ·simp [ih]
    ·cases h
   ·cases h
  ·rename_i hf
   rw [if_neg hf]
   exact xE hlu hlv hu hv d fs n h
theorem zgb {op:BinOp} {t:TypeId} {x y:Operand} {a b v:AV} {X Y:Value} (ha:zo w N ρ a X) (hb:zo w N ρ b Y) (h:aEq E op t a b=some v) :
  ∃ z,((do eqGuard op t x y X Y;binOp op t X Y:Sem Value)).run P w = .ok z w ∧ zo w N ρ v z ∧ ∀ q,v.sc q=true:=by
 unfold aEq at h
 split at h
 ·rename_i us vs
  split at h
  ·rename_i fs hu
   split at h
   ·rename_i hc
    obtain ⟨c1,c2⟩:=T.cmp t hc
    cases ha with | agg _ xs hl1 h1 =>
    cases hb with | agg _ ys hl2 h2 =>
    have hfo:P.fieldsOf t=fs:=by unfold Program.fieldsOf;rw [T.und _ _ hu]
    have hut:P.underlying t=some (.struct (P.fieldsOf t)):=by rw [hfo];exact T.und _ _ hu
    have run:∀ n,jH E us vs fs.toList=some n → (Op.equalIn 10000 t (.agg xs.toArray) (.agg ys.toArray)).run P w = .ok n w:=fun n hn=>by
     rw [run_equalIn_agg w 9999 t _ _ hut c1,hfo]
     exact xE T hl1 hl2 h1 h2 9998 fs.toList n hn
    have hg:=run_eqGuard_agg (P:=P) w op t x y xs.toArray ys.toArray c2
    unfold zga at h
    split at h
    ·obtain ⟨n,hn,rfl⟩:=Option.map_eq_some_iff.1 h
     exact ⟨.bool n,by simp only [Sem.run_bind,hg,Result.andThen_ok,run_eql_struct,run n hn],.c (.bool _),fun _=>rfl⟩
    ·obtain ⟨n,hn,rfl⟩:=Option.map_eq_some_iff.1 h
     exact ⟨.bool !n,by simp only [Sem.run_bind,hg,Result.andThen_ok,run_neq_struct,run n hn],.c (.bool _),fun _=>rfl⟩
    ·cases h
   ·cases h
  ·cases h
 ·unfold zga at h
  split at h
  ·obtain ⟨n,hn,rfl⟩:=Option.map_eq_some_iff.1 h
   obtain ⟨_,g2,g3,_⟩:=X6 T ha hb hn
   exact ⟨.bool n,by simp only [Sem.run_bind,g2,Result.andThen_ok,g3],.c (.bool _),fun _=>rfl⟩
  ·obtain ⟨n,hn,rfl⟩:=Option.map_eq_some_iff.1 h
   obtain ⟨_,g2,_,g4⟩:=X6 T ha hb hn
   exact ⟨.bool !n,by simp only [Sem.run_bind,g2,Result.andThen_ok,g4],.c (.bool _),fun _=>rfl⟩
  ·cases h
theorem zc6 {op:BinOp} {t:TypeId} {x y:Operand} {a b v:AV} {X Y:Value} (ha:zo w N ρ a X) (hb:zo w N ρ b Y) (h:zl7 E op t a b=some v) :
  ∃ z,((do eqGuard op t x y X Y;binOp op t X Y:Sem Value)).run P w = .ok z w ∧ zo w N ρ v z ∧ ∀ q,v.sc q=true:=by
 unfold zl7 at h
 split at h
 ·rename_i k p k' q
  cases ha.int_eq;cases hb.int_eq
  obtain ⟨c,hc,rfl⟩:=Option.map_eq_some_iff.1 h
  have key:∃ y,(binOp op t (.int k p) (.int k' q)).run P w = .ok y w ∧ ∀ N,kX w N c y:=by
   split at hc
   ·exact Qr hc
   ·exact Qr hc
   ·rename_i h1 h2
    split at hc
    ·rename_i hk
     subst hk
     exact zco hc (fun e=>h1 e) (fun e=>h2 e)
    ·cases hc
  obtain ⟨z,hz,hr⟩:=key
  have hg:=kZ (P:=P) (w:=w) (op:=op) (t:=t) (x:=x) (y:=y) (a:=.int k p) (b:=.int k' q) (by simp) (by simp)
  exact ⟨z,by simp only [Sem.run_bind,hg,Result.andThen_ok,hz],.c (hr N),fun _=>rfl⟩
 ·rename_i p q
  cases ha.vH;cases hb.vH
  have hg:=kZ (P:=P) (w:=w) (op:=op) (t:=t) (x:=x) (y:=y) (a:=.string p) (b:=.string q) (by simp) (by simp)
  obtain ⟨c,hc,rfl⟩:=Option.map_eq_some_iff.1 h
  obtain ⟨z,hz,hr⟩:=zc1 (P:=P) (w:=w) (t:=t) hc
  exact ⟨z,by simp only [Sem.run_bind,hg,Result.andThen_ok,hz],.c (hr N),fun _=>rfl⟩
 ·rename_i p q
  cases ha.xH;cases hb.xH
  have hg:=kZ (P:=P) (w:=w) (op:=op) (t:=t) (x:=x) (y:=y) (a:=.bool p) (b:=.bool q) (by simp) (by simp)
  split at h
  ·rename_i hu
   split at h
   ·cases h
    exact ⟨_,by simp only [Sem.run_bind,hg,Result.andThen_ok,binOp,Jf (T.und _ _ hu),Sem.run_pure],.c (.bool _),fun _=>rfl⟩
   ·cases h
    exact ⟨_,by simp only [Sem.run_bind,hg,Result.andThen_ok,binOp,Jf (T.und _ _ hu),Sem.run_pure],.c (.bool _),fun _=>rfl⟩
   ·cases h
  ·cases h
 ·exact zgb T ha hb h
omit T in
theorem zeo {op:UnOp} {a v:AV} {X:Value} (ha:zo w N ρ a X) (h:aUn op a=some v) :
  ∃ z,(Op.unary op X).run P w = .ok z w ∧ zo w N ρ v z ∧ ∀ q,v.sc q=true:=by
 unfold aUn at h
 split at h
 ·cases ha.int_eq;cases h
  exact ⟨_,by simp [Op.unary,Op.intArith],.c (.int _ _),fun _=>rfl⟩
 ·cases ha.int_eq;cases h
  exact ⟨_,by simp only [Op.unary,intBits_xor,Sem.run_pure],.c (.int _ _),fun _=>rfl⟩
 ·cases ha.xH;cases h
  exact ⟨_,by simp [Op.unary],.c (.bool _),fun _=>rfl⟩
 ·cases h
omit T in
theorem X8 {p:Bool} {a b:AV} {X Y:Value} (ha:zo w N ρ a X) (hb:zo w N ρ b Y):zo w N ρ (V4 p a b) (if p then X else Y) ∧ ∀ q,a.sc q=true → b.sc q=true → (V4 p a b).sc q=true:=by
 unfold V4
 split
 ·cases ha.xH;cases hb.xH
  exact ⟨by cases p <;> exact .c (.bool _),fun _ _ _=>rfl⟩
 ·cases ha.int_eq;cases hb.int_eq
  split
  ·rename_i hk;subst hk
   exact ⟨by cases p <;> exact .c (.int _ _),fun _ _ _=>rfl⟩
  ·exact ⟨by cases p <;> exact .c (.int _ _),fun _ _ _=>by cases p <;> rfl⟩
 ·cases ha.vH;cases hb.vH
  exact ⟨by cases p <;> exact .c (.str _),fun _ _ _=>rfl⟩
 ·cases p
  ·exact ⟨hb,fun _ _ h=>h⟩
  ·exact ⟨ha,fun _ h _=>h⟩
end
end Go.Ev
namespace Go.Ev
open Go.RowKit
variable [qo]
theorem zp {α:Type}:∀ (vs cells:List α) (off:Nat),(kK cells off vs).length=cells.length
 | [],_,_=>rfl
 | v :: vs,cells,off=>by rw [kK,zp vs];simp
theorem qm {α:Type}:∀ (vs cells:List α) (off n:Nat),off + vs.length ≤ cells.length → (kK cells off vs)[n]?=if off ≤ n ∧ n < off + vs.length then vs[n - off]? else cells[n]?
 | [],cells,off,n,_=>by simp [kK];intro h1 h2;omega
 | v :: vs,cells,off,n,h=>by
  rw [kK,qm vs (cells.set off v) (off + 1) n (by simp at h ⊢;omega)]
  simp only [List.length_cons] at h ⊢
  by_cases h1:off + 1 ≤ n ∧ n < off + 1 + vs.length
  ·rw [if_pos h1,if_pos ⟨by omega,by omega⟩]
   have:n - off=(n - (off + 1)) + 1:=by omega
   rw [this,List.getElem?_cons_succ]
  ·rw [if_neg h1]
   by_cases h2:n=off
   ·subst h2
    rw [if_pos ⟨Nat.le_refl _,by omega⟩,Nat.sub_self]
    simp [show n < cells.length by omega]
   ·rw [if_neg (by omega),List.getElem?_set_ne (Ne.symm h2)]
theorem vz (n:Nat):zjl n (0,0):=fun i _ h=>by omega
theorem kX.one {w:World} {N:Nat → Prop} {c:CV} {x:Value} (h:kX w N c x):x.oneCell'=true:=by
 cases h <;> rfl
theorem zo.one {w:World} {N:Nat → Prop} {ρ:Nat → Pl} {a:AV} {x:Value} (h:zo w N ρ a x) (ho:kH a=true):x.oneCell'=true:=by
 cases h with
 | c h=>exact h.one
 | agg=>cases ho
 | tup=>cases ho
 | und=>cases ho
 | dead=>cases ho
 | ptr=>rfl
 | mp=>rfl
 | sn=>rfl
 | sl=>rfl
 | er=>rfl
 | es=>rfl
 | ifc=>rfl
 | rd=>rfl
 | fn=>rfl
theorem Value.zfh {x:Value} (h:x.oneCell'=true):x.cells = #[x]:=by
 cases x <;> first | rfl | cases h
theorem v7 {w:World} {N:Nat → Prop} {ρ:Nat → Pl} {a:AV} {X:Value} {cs:List AV} (ha:zo w N ρ a X) (h:cellsOf a=some cs) :
  X.cells.size=cs.length ∧ (∀ (i:Nat) (hi:i < cs.length),∃ x,X.cells[i]?=some x ∧ zo w N ρ cs[i] x) ∧ (∀ u,u ∈ X.cells → u.oneCell'=true) ∧ (∀ q,a.sc q=true → AV.sc.scAll q cs=true):=by
 cases ha with
 | agg us vs hl hr =>
  simp only [cellsOf] at h
  split at h
  ·rename_i hok
   cases h
   simp only [Value.cells]
   refine ⟨by simp [hl],fun i hi=>⟨vs[i]'(by omega),by simp,hr i hi _⟩,fun u hu=>?_,fun q hq=>hq⟩
   obtain ⟨i,hi,rfl⟩:=List.getElem_of_mem (List.mem_toArray.1 hu)
   exact (hr i (by omega) hi).one (List.all_eq_true.1 hok _ (List.getElem_mem _))
  ·cases h
 | tup=>simp [cellsOf,kH] at h
 | und=>simp [cellsOf,kH] at h
 | dead=>simp [cellsOf,kH] at h
 | c hc =>
  simp [cellsOf,kH] at h;subst h
  rw [Value.zfh hc.one]
  exact ⟨rfl,fun i hi=>by simp at hi;subst hi;exact ⟨_,rfl,.c hc⟩,fun u hu=>by simp at hu;subst hu;exact hc.one,fun q hq=>rfl⟩
 | ptr id off =>
  simp [cellsOf,kH] at h;subst h
  exact ⟨rfl,fun i hi=>by simp at hi;subst hi;exact ⟨_,rfl,.ptr id off⟩,fun u hu=>by simp [Value.cells] at hu;subst hu;rfl,fun q hq=>by simpa [AV.sc.scAll] using hq⟩
 | mp id =>
  simp [cellsOf,kH] at h;subst h
  exact ⟨rfl,fun i hi=>by simp at hi;subst hi;exact ⟨_,rfl,.mp id⟩,fun u hu=>by simp [Value.cells] at hu;subst hu;rfl,fun q hq=>by simpa [AV.sc.scAll] using hq⟩
 | sn id hp =>
  simp [cellsOf,kH] at h;subst h
  exact ⟨rfl,fun i hi=>by simp at hi;subst hi;exact ⟨_,rfl,.sn id hp⟩,fun u hu=>by simp [Value.cells] at hu;subst hu;rfl,fun q hq=>by simpa [AV.sc.scAll] using hq⟩
 | sl id off len cap o hp ho h1 h2 hm =>
  simp [cellsOf,kH] at h;subst h
  exact ⟨rfl,fun i hi=>by simp at hi;subst hi;exact ⟨_,rfl,.sl id off len cap o hp ho h1 h2 hm⟩,fun u hu=>by simp [Value.cells] at hu;subst hu;rfl,fun q hq=>by simpa [AV.sc.scAll] using hq⟩
 | er id j k =>
  simp [cellsOf,kH] at h;subst h
  exact ⟨rfl,fun i hi=>by simp at hi;subst hi;exact ⟨_,rfl,.er id j k⟩,fun u hu=>by simp [Value.cells] at hu;subst hu;rfl,fun q hq=>by simpa [AV.sc.scAll] using hq⟩
 | es id j k n cap hph h1 hm =>
  simp [cellsOf,kH] at h;subst h
  exact ⟨rfl,fun i hi=>by simp at hi;subst hi;exact ⟨_,rfl,.es id j k n cap hph h1 hm⟩,fun u hu=>by simp [Value.cells] at hu;subst hu;rfl,fun q hq=>by simpa [AV.sc.scAll] using hq⟩
 | ifc t v x hx =>
  simp [cellsOf,kH] at h;subst h
  exact ⟨rfl,fun i hi=>by simp at hi;subst hi;exact ⟨_,rfl,.ifc t v x hx⟩,fun u hu=>by simp [Value.cells] at hu;subst hu;rfl,fun q hq=>by simpa [AV.sc.scAll] using hq⟩
 | rd rs b o hN hc =>
  simp [cellsOf,kH] at h;subst h
  exact ⟨rfl,fun i hi=>by simp at hi;subst hi;exact ⟨_,rfl,.rd rs b o hN hc⟩,fun u hu=>by simp [Value.cells] at hu;subst hu;rfl,fun q hq=>rfl⟩
 | fn f us vs hl hr =>
  simp [cellsOf,kH] at h;subst h
  exact ⟨rfl,fun i hi=>by simp at hi;subst hi;exact ⟨_,rfl,.fn f us vs hl hr⟩,fun u hu=>by simp [Value.cells] at hu;subst hu;rfl,fun q hq=>by simpa [AV.sc.scAll] using hq⟩
theorem zn.new {N:Nat → Prop} {h:List zf} {ρ:Nat → Pl} {w w':World} {nw:Nat} {k:zf} {p:Pl} {v:AV} {x:Value} (H:zw N h ρ w) (hf:kA h nw) (hm:Made w w') (hp:p.ph=false → w.heap.size ≤ p.b) (hku:k ≠ .zy)
  (hs:AV.sc.scAll (born h) k.avs=true) (hb:ka w' N (upd ρ nw p) p k) (hr:zo w' N (upd ρ nw p) v x) (hv:v.sc (fun i=>i == nw)=true) :
  zn N h ρ w v (qW h nw k) x w':=by
 obtain ⟨H',K⟩:=H.new hf hm hp hku hs hb
 refine ⟨⟨N,upd ρ nw p,H',hr,K,AV.zQ (fun i hi=>?_) v hv⟩⟩
 have:i=nw:=by simpa using hi
 subst this
 unfold born;rw [qe hf.le];cases k <;> simp_all
theorem zkF {P:Program} {w:World} (e:TypeId) (X:Value):(Instr.box e X).run P w = .ok (.pointer (some ⟨w.heap.size,0,none⟩)) (w.alloc (.cells X.cells e)):=by
 simp [Instr.box,newVar,newRow]
theorem qZ (w:World) (o:Obj):(w.alloc o).heap[w.heap.size]?=some o:=heap_alloc_new w o
theorem zeO {P:Program} {N:Nat → Prop} {h:List zf} {ρ:Nat → Pl} {w:World} {nw:Nat} {e:TypeId} {a:AV} {X:Value} {cs:List AV} (H:zw N h ρ w) (hf:kA h nw) (ha:zo w N ρ a X) (hs:a.sc (born h)=true) (hc:cellsOf a=some cs) :
  ∃ y w',(Instr.box e X).run P w = .ok y w' ∧ zn N h ρ w (.ptr nw 0) (qW h nw (.box cs)) y w':=by
 obtain ⟨h1,h2,h3,h4⟩:=v7 ha hc
 refine ⟨_,_,zkF e X,?_⟩
 let p:Pl:=⟨w.heap.size,0,X.cells.size,0,false⟩
 have hm:=Made.alloc w (.cells X.cells e)
 have hst:∀ b,N b → N b ∧ (w.alloc (.cells X.cells e)).heap[b]?=w.heap[b]?:=fun b hN=>⟨hN,hm.old b (H.lt b hN)⟩
 have hrho:∀ i,born h i=true → upd ρ nw p i = ρ i:=fun i hi=>kF (fun e=>by subst e;rw [hf.zy] at hi;cases hi)
 refine zn.new (p:=p) H hf hm (fun _=>Nat.le_refl _) (by simp) (h4 _ hs) ⟨rfl,rfl,X.cells,e,(0,0),qZ w _,vz _,h1,fun i hi=>?_⟩ ?_ (by simp [AV.sc])
 ·obtain ⟨x,hx,hr⟩:=h2 i hi
  exact ⟨x,hx,hr.mono (qp (h4 _ hs) hi) hst hrho⟩
 ·have:=zo.ptr (w:=w.alloc (.cells X.cells e)) (N:=N) (ρ:=upd ρ nw p) nw 0
  rw [zV] at this;exact this
theorem qy {w:World} {N:Nat → Prop} {ρ:Nat → Pl} {v:Value} {z:List CV} (h:Za v.cells.toList=some z) :
  v.cells.size=z.length ∧ ∀ (i:Nat) (hi:i < z.length),∃ x,v.cells[i]?=some x ∧ kX w N z[i] x:=by
 obtain ⟨h1,h2⟩:=Z5 (w:=w) (N:=N) h
 refine ⟨by rw [h1];simp,fun i hi=>⟨v.cells[i]'(by rw [h1] at hi;simpa using hi),by simp,?_⟩⟩
 have:=h2 i hi (by rw [h1] at hi;exact hi)
 simpa using this
theorem zab {P:Program} {E:Env} (T:zE P E) {N:Nat → Prop} {h:List zf} {ρ:Nat → Pl} {w:World} {nw:Nat} {e:TypeId} {z:List CV} (H:zw N h ρ w) (hf:kA h nw) (hz:E.zero e=some z) :
  ∃ y w',(Instr.alloc e true (.tuple #[])).run P w = .ok y w' ∧ zn N h ρ w (.ptr nw 0) (qW h nw (.box (z.map .c))) y w':=by
 obtain ⟨i,v,hi,hv,hl⟩:=T.zero e z hz
 have hrun:(Instr.alloc e true (.tuple #[])).run P w = .ok (.pointer (some ⟨w.heap.size,0,none⟩)) (w.alloc (.cells v.cells e)):=by
  simp [Instr.alloc,zeroValue,typeInfo,hi,hv,newVar,newRow]
 refine ⟨_,_,hrun,?_⟩
 let p:Pl:=⟨w.heap.size,0,v.cells.size,0,false⟩
 have hm:=Made.alloc w (.cells v.cells e)
 obtain ⟨h1,h2⟩:=qy (w:=w.alloc (.cells v.cells e)) (N:=N) (ρ:=upd ρ nw p) hl
 refine zn.new (p:=p) H hf hm (fun _=>Nat.le_refl _) (by simp) (xT z) ⟨rfl,rfl,v.cells,e,(0,0),qZ w _,vz _,by rw [h1];simp,fun i hi=>?_⟩ ?_ (by simp [AV.sc])
 ·obtain ⟨x,hx,hr⟩:=h2 i (by simpa using hi)
  exact ⟨x,hx,by simpa using zo.c hr⟩
 ·have:=zo.ptr (w:=w.alloc (.cells v.cells e)) (N:=N) (ρ:=upd ρ nw p) nw 0
  rw [zV] at this;exact this
theorem jS {P:Program} (b o:Nat) (t:TypeId) (fr:Nat × Nat):∀ (vs:List Value) (i:Nat) (cur:Array Value) (w:World),w.heap[b]?=some (.cells cur t fr) → zjl cur.size fr → o + i + vs.length ≤ cur.size → (∀ v,v ∈ vs → v.oneCell'=true) →
  ∃ w',(storeCells ⟨b,o,none⟩ vs i).run P w = .ok () w' ∧ xe b w w' ∧ w'.heap[b]?=some (.cells (kK cur.toList (o + i) vs).toArray t fr)
 | [],i,cur,w,hg,_,_,_=>⟨w,rfl,xe.refl b w,by simpa [kK] using hg⟩
 | v :: vs,i,cur,w,hg,hf,hl,h1=>by
  simp only [List.length_cons] at hl
  have hc:w.cell? ⟨b,o + i,none⟩=cur[o + i]?:=z8 hg
  have hcs:cur[o + i]?=some (cur[o + i]'(by omega)):=Array.getElem?_eq_getElem (by omega)
  have hfz:w.frozen? ⟨b,o + i,none⟩=false:=by
   have:=hf (o + i) (by omega)
   simp only [World.frozen?,hg]
   simpa using this
  have hst:(store ⟨b,o + i,none⟩ v).run P w = .ok () (w.setCell ⟨b,o + i,none⟩ v):=by
   rw [run_store P w _ v .plain (h1 v (by simp)),hc,hcs]
   simp [hfz]
  have hg':(w.setCell ⟨b,o + i,none⟩ v).heap[b]?=some (.cells (cur.setIfInBounds (o + i) v) t fr):=by
   simp [World.setCell,Array.getElem?_modify,hg]
  obtain ⟨w',hr,hw,hh⟩:=jS (P:=P) b o t fr vs (i + 1) (cur.setIfInBounds (o + i) v) (w.setCell ⟨b,o + i,none⟩ v) hg' (by simpa using hf) (by simp;omega) (fun u hu=>h1 u (by simp [hu]))
  refine ⟨w',?_,?_,?_⟩
  ·simp only [storeCells,Sem.run_bind,add_plain,hst,Result.andThen_ok,hr]
  ·have h0:=(xe.refl b w).setCell ⟨b,o + i,none⟩ rfl v
   exact ⟨hw.os.trans h0.os,hw.tape.trans h0.tape,hw.output.trans h0.output,hw.size.trans h0.size,fun c hc=>(hw.old c hc).trans (h0.old c hc)⟩
  ·rw [hh,kK,Array.toList_setIfInBounds,Nat.add_assoc]
theorem vp {w:World} {N:Nat → Prop} {ρ:Nat → Pl}:∀ (a:AV) (c:CV) (x:Value),kS a=some c → zo w N ρ a x → kX w N c x
 | .c v,c,x,h,hr=>by simp [kS] at h;subst h;cases hr with | c h=>exact h
 | .fn f caps,c,x,h,hr=>by
  simp only [kS] at h
  obtain ⟨cs,hcs,rfl⟩:=Option.map_eq_some_iff.1 h
  have hi:=all caps cs hcs
  cases hr with
  | fn _ _ vs hvl hv=>exact .fn f cs vs (by omega) fun i a b=>hi.2 i (by omega) a _ (hv i (by omega) b)
 | .rd cs,c,x,h,hr=>by
  simp only [kS,Option.some.injEq] at h
  subst h
  cases hr with
  | rd _ b o hN hc =>
   refine .pt cs b o (fun i=>(w.cell? ⟨b,o + i,none⟩).getD undef) hN (fun i hi=>?_) fun i hi=>?_
   ·obtain ⟨x,hx,_⟩:=hc i hi
    rw [hx];rfl
   ·obtain ⟨x,hx,hrx⟩:=hc i hi
    rw [hx];exact hrx
 | .agg _,c,x,h,_ | .tup _,c,x,h,_ | .ptr _ _,c,x,h,_ | .mp _,c,x,h,_ | .sl _ _ _,c,x,h,_ | .er _ _ _,c,x,h,_ | .es _ _ _ _,c,x,h,_ | .ifc _ _,c,x,h,_ | .und,c,x,h,_ | .dead,c,x,h,_=>by simp [kS] at h
where
 all:∀ (l:List AV) (cs:List CV),kS.closeAll l=some cs → cs.length=l.length ∧ ∀ (i:Nat) (h1:i < l.length) (h2:i < cs.length) (x:Value),zo w N ρ l[i] x → kX w N cs[i] x
  | [],cs,h=>by simp [kS.closeAll] at h;subst h;exact ⟨rfl,fun i h1=>absurd h1 (by simp)⟩
  | v :: vs,cs,h=>by
   unfold kS.closeAll at h
   split at h
   ·rename_i c cs' hc hcs
    cases h
    have hi:=all vs cs' hcs
    refine ⟨by simp [hi.1],fun i h1 h2 x hr=>?_⟩
    cases i with
    | zero=>exact vp v c x hc hr
    | succ i=>exact hi.2 i (by simpa using h1) (by simpa using h2) x hr
   ·cases h
theorem ki:∀ {l:List AV} {cs:List CV},qt l=some cs → cs.length=l.length
 | [],cs,h=>by simp [qt,kS.closeAll] at h;subst h;rfl
 | v :: vs,cs,h=>by
  unfold qt kS.closeAll at h
  split at h
  ·rename_i c cs' hc hcs
   cases h
   simp [ki (l:=vs) hcs]
  ·cases h
theorem vA:∀ {l:List AV} {cs:List CV},qt l=some cs → ∀ (i:Nat) (h1:i < l.length) (h2:i < cs.length),kS l[i]=some cs[i]
 | [],cs,h,i,h1,_=>absurd h1 (by simp)
 | v :: vs,cs,h,i,h1,h2=>by
  unfold qt kS.closeAll at h
  split at h
  ·rename_i c cs' hc hcs
   cases h
   cases i with
   | zero=>exact hc
   | succ i=>exact vA (l:=vs) hcs i (by simpa using h1) (by simpa using h2)
  ·cases h
end Go.Ev
namespace Go.Ev
open Go.RowKit
variable [qo]
theorem QY {h:List zf} {ρ:Nat → Pl} {id:Nat} {k:zf} (hk:h[id]?=some k) (hp:(ρ id).ph=false) (h1:k ≠ .gone) (h2:k ≠ .zy):owns h ρ id:=⟨⟨k,hk,h1,h2⟩,hp⟩
theorem zn.wrote {N:Nat → Prop} {h:List zf} {ρ:Nat → Pl} {w w':World} {id:Nat} {k:zf} (H:zw N h ρ w) (hl:owns h ρ id) (hw:xe (ρ id).b w w') (hku:k ≠ .zy)
  (hs:AV.sc.scAll (born h) k.avs=true) (hb:ka w' N ρ (ρ id) k):zn N h ρ w .und (qW h id k) undef w':=by
 obtain ⟨H',K⟩:=H.wrote hl hw hku hs hb
 exact ⟨⟨N,ρ,H',.und,K,rfl⟩⟩
theorem xp {P:Program} {E:Env} (T:zE P E) {t:TypeId} {n:Nat} (hn:E.size t=some n) {b o:Nat} {ty:TypeId} {fr:Nat × Nat} {X:Value} {cur:Array Value} {w:World} (hx:X.cells.size=n) (h1:∀ u,u ∈ X.cells → u.oneCell'=true)
  (hg:w.heap[b]?=some (.cells cur ty fr)) (hf:zjl cur.size fr) (hl:o + n ≤ cur.size) :
  ∃ w',(storeVar t ⟨b,o,none⟩ X).run P w = .ok () w' ∧ xe b w w' ∧ w'.heap[b]?=some (.cells (kK cur.toList o X.cells.toList).toArray ty fr):=by
 obtain ⟨w',hr,hw,hh⟩:=jS (P:=P) b o ty fr X.cells.toList 0 cur w hg hf (by simpa [hx] using hl) (fun u hu=>h1 u (by simpa using hu))
 refine ⟨w',?_,hw,hh⟩
 simp only [storeVar,Sem.run_bind,T.zM hn,Result.andThen_ok]
 rw [if_neg (by simp [hx])]
 exact hr
theorem W5 {P:Program} {E:Env} (T:zE P E) {N:Nat → Prop} {h:List zf} {ρ:Nat → Pl} {w:World} (H:zw N h ρ w) {t:TypeId} {a v:AV} {A X:Value} {U:List (Nat × zf)} (ha:zo w N ρ a A) (hv:zo w N ρ v X) (hs:v.sc (born h)=true) (hU:Qg E t a v h=some U) :
  ∃ w',(Instr.storeAt t A X).run P w = .ok () w' ∧ zn N h ρ w .und (app h U) undef w':=by
 unfold Qg at hU
 split at hU
 ·rename_i vs n hc hn
  obtain ⟨h1,h2,h3,h4⟩:=v7 hv hc
  split at hU
  ·rename_i hlen
   split at hU
   ·rename_i id off
    split at hU
    ·rename_i cs hb
     split at hU
     ·rename_i hle
      cases hU
      cases ha with
      | ptr _ _ =>
       obtain ⟨hph,hbase,cur,ty,fr,hh,hf,hl,hcell⟩:=H.own id _ hb
       obtain ⟨w',hr,hw,hh'⟩:=xp T hn (b:=(ρ id).b) (o:=off) (X:=X) (by omega) h3 hh hf (by omega)
       refine ⟨w',by rw [hbase,Nat.zero_add];simpa [Instr.storeAt,Instr.sureAddr] using hr,?_⟩
       have hlv:=QY hb hph (by simp) (by simp)
       have hst:∀ b,N b → N b ∧ w'.heap[b]?=w.heap[b]?:=fun b hN=>⟨hN,hw.old b (fun e=>H.apart id hlv (e ▸ hN))⟩
       have hXl:X.cells.toList.length=vs.length:=by simpa using h1
       refine zn.wrote H hlv hw (by simp) ?_ ⟨hph,hbase,_,ty,fr,hh',?_,?_,fun i hi=>?_⟩
       ·show AV.sc.scAll (born h) (kK cs off vs)=true
        refine ze.2 fun x hx=>?_
        obtain ⟨i,hi,rfl⟩:=List.getElem_of_mem hx
        have hg:=qm vs cs off i (by omega)
        rw [List.getElem?_eq_getElem hi] at hg
        split at hg
        ·exact ze.1 (h4 _ hs) _ (List.mem_of_getElem? hg.symm)
        ·exact ze.1 (H.scope id _ hb) _ (List.mem_of_getElem? hg.symm)
       ·simpa [zp] using hf
       ·simp [zp,hl]
       ·have hi':i < cs.length:=by simpa [zp] using hi
        have hg:=qm vs cs off i (by omega)
        rw [List.getElem?_eq_getElem hi] at hg
        have hgV:=qm X.cells.toList cur.toList off i (by simp [h1];omega)
        simp only [List.getElem?_toArray,hgV,hXl]
        split at hg
        ·rename_i hr1
         rw [if_pos hr1]
         obtain ⟨hlt,he⟩:=List.getElem?_eq_some_iff.1 hg.symm
         obtain ⟨x,hx,hrx⟩:=h2 (i - off) hlt
         refine ⟨x,by simpa using hx,?_⟩
         rw [he] at hrx
         exact hrx.mono (by rw [← he];exact qp (h4 _ hs) hlt) hst (fun _ _=>rfl)
        ·rename_i hr1
         rw [if_neg hr1]
         obtain ⟨hlt,he⟩:=List.getElem?_eq_some_iff.1 hg.symm
         obtain ⟨x,hx,hrx⟩:=hcell i hlt
         refine ⟨x,by simpa using hx,?_⟩
         rw [he] at hrx
         exact hrx.mono (by rw [← he];exact qp (H.scope id _ hb) hlt) hst (fun _ _=>rfl)
     ·cases hU
    ·cases hU
   ·rename_i id j k
    split at hU
    ·rename_i sz e xs hb
     split at hU
     ·rename_i x us hx hus
      split at hU
      ·rename_i hle
       cases hU
       cases ha with
       | er _ _ _ =>
        obtain ⟨hjl,hxe⟩:=List.getElem?_eq_some_iff.1 hx
        obtain ⟨hsz,hszs,⟨_,h0⟩ | ⟨hph,cur,ty,fr,hh,hf,hsize,hrange,hcell⟩⟩:=H.own id _ hb
        ·subst h0;simp at hjl
        have hxl:x.length=sz:=hszs x (by rw [← hxe];exact List.getElem_mem hjl)
        have husl:=ki hus
        have hj1:(j + 1) * sz ≤ xs.length * sz:=Nat.mul_le_mul_right sz hjl
        rw [Nat.add_mul,Nat.one_mul] at hj1
        obtain ⟨w',hr,hw,hh'⟩:=xp T hn (b:=(ρ id).b) (o:=(ρ id).base + (j * sz + k)) (X:=X) (by omega) h3 hh hf (by omega)
        refine ⟨w',by rw [hsz];simpa [Instr.storeAt,Instr.sureAddr] using hr,?_⟩
        have hlv:=QY hb hph (by simp) (by simp)
        have hst:∀ b,N b → N b ∧ w'.heap[b]?=w.heap[b]?:=fun b hN=>⟨hN,hw.old b (fun e=>H.apart id hlv (e ▸ hN))⟩
        have hXl:X.cells.toList.length=vs.length:=by simpa using h1
        have hel:∀ i (hi:i < (xs.set j (kK x k us)).length),((xs.set j (kK x k us))[i]).length=sz:=fun i hi=>by
         rw [List.getElem_set]
         split
         ·rw [zp];exact hxl
         ·exact hszs _ (List.getElem_mem _)
        refine zn.wrote H hlv hw (by simp) rfl ⟨hsz,fun y hy=>?_,.inr ⟨hph,_,ty,fr,hh',?_,?_,?_,fun i m hi hm=>?_⟩⟩
        ·obtain ⟨i,hi,rfl⟩:=List.getElem_of_mem hy
         exact hel i hi
        ·simpa [zp] using hf
        ·simp [zp,hsize]
        ·simpa [zp] using hrange
        ·have hi':i < xs.length:=by simpa using hi
         have hm':m < sz:=by rw [hel i hi] at hm;exact hm
         have hi1:(i + 1) * sz ≤ xs.length * sz:=Nat.mul_le_mul_right sz hi'
         rw [Nat.add_mul,Nat.one_mul] at hi1
         have hgV:=qm X.cells.toList cur.toList ((ρ id).base + (j * sz + k)) ((ρ id).base + (i * sz + m)) (by simp [h1];omega)
         simp only [List.getElem?_toArray,hgV,hXl]
         by_cases hij:j=i
         ·subst hij
          have e1:(xs.set j (kK x k us))[j]'hi=kK x k us:=by simp
          have hg:=qm us x k m (by omega)
          have hgm:(kK x k us)[m]?=some ((xs.set j (kK x k us))[j][m]'hm):=by
           rw [List.getElem?_eq_some_iff]
           exact ⟨by rw [zp];omega,by simp [e1]⟩
          rw [hgm] at hg
          split at hg
          ·rename_i hr1
           rw [if_pos (by omega)]
           obtain ⟨hlt,he⟩:=List.getElem?_eq_some_iff.1 hg.symm
           obtain ⟨y,hy,hry⟩:=h2 (m - k) (by omega)
           have hidx:(ρ id).base + (j * sz + m) - ((ρ id).base + (j * sz + k))=m - k:=by omega
           refine ⟨y,by rw [hidx];simpa using hy,?_⟩
           have hcl:=vA hus (m - k) (by omega) hlt
           rw [← he]
           exact (vp _ _ _ hcl hry).mono hst
          ·rename_i hr1
           rw [if_neg (by omega)]
           obtain ⟨hlt,he⟩:=List.getElem?_eq_some_iff.1 hg.symm
           obtain ⟨y,hy,hry⟩:=hcell j m hjl (by rw [hxe];exact hlt)
           refine ⟨y,by simpa using hy,?_⟩
           rw [← he]
           have:(xs[j])[m]'(by rw [hxe];exact hlt)=x[m]:=by simp [hxe]
           rw [← this]
           exact hry.mono hst
         ·have e1:(xs.set j (kK x k us))[i]'hi=xs[i]:=by rw [List.getElem_set_ne hij]
          have hne:¬ ((ρ id).base + (j * sz + k) ≤ (ρ id).base + (i * sz + m) ∧ (ρ id).base + (i * sz + m) < (ρ id).base + (j * sz + k) + vs.length):=by
           rcases Nat.lt_or_ge i j with hlt | hge
           ·have:(i + 1) * sz ≤ j * sz:=Nat.mul_le_mul_right sz hlt
            rw [Nat.add_mul,Nat.one_mul] at this
            omega
           ·have:(j + 1) * sz ≤ i * sz:=Nat.mul_le_mul_right sz (by omega)
            rw [Nat.add_mul,Nat.one_mul] at this
            omega
          rw [if_neg hne]
          have hlx:(xs[i]).length=sz:=hszs _ (List.getElem_mem _)
          obtain ⟨y,hy,hry⟩:=hcell i m hi' (by omega)
          refine ⟨y,by simpa using hy,?_⟩
          have:((xs.set j (kK x k us))[i]'hi)[m]'hm=(xs[i])[m]'(by omega):=by simp [e1]
          rw [this]
          exact hry.mono hst
      ·cases hU
     ·cases hU
    ·rename_i sz e xs hb
     split at hU
     ·rename_i x hx
      split at hU
      ·rename_i hle
       cases hU
       cases ha with
       | er _ _ _ =>
        obtain ⟨hjl,hxe⟩:=List.getElem?_eq_some_iff.1 hx
        obtain ⟨hsz,hszs,⟨_,h0⟩ | ⟨hph,cur,ty,fr,hh,hf,hsize,hrange,hcell⟩⟩:=H.own id _ hb
        ·subst h0;simp at hjl
        have hxl:x.length=sz:=hszs x (by rw [← hxe];exact List.getElem_mem hjl)
        have hj1:(j + 1) * sz ≤ xs.length * sz:=Nat.mul_le_mul_right sz hjl
        rw [Nat.add_mul,Nat.one_mul] at hj1
        obtain ⟨w',hr,hw,hh'⟩:=xp T hn (b:=(ρ id).b) (o:=(ρ id).base + (j * sz + k)) (X:=X) (by omega) h3 hh hf (by omega)
        refine ⟨w',by rw [hsz];simpa [Instr.storeAt,Instr.sureAddr] using hr,?_⟩
        have hlv:=QY hb hph (by simp) (by simp)
        have hst:∀ b,N b → N b ∧ w'.heap[b]?=w.heap[b]?:=fun b hN=>⟨hN,hw.old b (fun e=>H.apart id hlv (e ▸ hN))⟩
        have hXl:X.cells.toList.length=vs.length:=by simpa using h1
        have hel:∀ i (hi:i < (xs.set j (kK x k vs)).length),((xs.set j (kK x k vs))[i]).length=sz:=fun i hi=>by
         rw [List.getElem_set]
         split
         ·rw [zp];exact hxl
         ·exact hszs _ (List.getElem_mem _)
        refine zn.wrote H hlv hw (by simp) (ze.2 fun z hz=>?_) ⟨hsz,fun y hy=>?_,.inr ⟨hph,_,ty,fr,hh',?_,?_,?_,fun i m hi hm=>?_⟩⟩
        ·obtain ⟨l,hl,hzl⟩:=List.mem_flatten.1 hz
         have hold:∀ y,y ∈ xs → ∀ z,z ∈ y → AV.sc (born h) z=true:=fun y hy z hz=>ze.1 (H.scope id _ hb) z (List.mem_flatten.2 ⟨y,hy,hz⟩)
         rcases List.mem_or_eq_of_mem_set hl with h1' | rfl
         ·exact hold l h1' z hzl
         ·obtain ⟨m,hm,rfl⟩:=List.getElem_of_mem hzl
          have hg:=qm vs x k m (by omega)
          rw [List.getElem?_eq_getElem hm] at hg
          split at hg
          ·exact ze.1 (h4 _ hs) _ (List.mem_of_getElem? hg.symm)
          ·exact hold x (List.mem_of_getElem? hx) _ (List.mem_of_getElem? hg.symm)
        ·obtain ⟨i,hi,rfl⟩:=List.getElem_of_mem hy
         exact hel i hi
        ·simpa [zp] using hf
        ·simp [zp,hsize]
        ·simpa [zp] using hrange
        ·have hi':i < xs.length:=by simpa using hi
         have hm':m < sz:=by rw [hel i hi] at hm;exact hm
         have hi1:(i + 1) * sz ≤ xs.length * sz:=Nat.mul_le_mul_right sz hi'
         rw [Nat.add_mul,Nat.one_mul] at hi1
         have hgV:=qm X.cells.toList cur.toList ((ρ id).base + (j * sz + k)) ((ρ id).base + (i * sz + m)) (by simp [h1];omega)
         simp only [List.getElem?_toArray,hgV,hXl]
         by_cases hij:j=i
         ·subst hij
          have e1:(xs.set j (kK x k vs))[j]'hi=kK x k vs:=by simp
          have hg:=qm vs x k m (by omega)
          have hgm:(kK x k vs)[m]?=some ((xs.set j (kK x k vs))[j][m]'hm):=by
           rw [List.getElem?_eq_some_iff]
           exact ⟨by rw [zp];omega,by simp [e1]⟩
          rw [hgm] at hg
          split at hg
          ·rename_i hr1
           rw [if_pos (by omega)]
           obtain ⟨hlt,he⟩:=List.getElem?_eq_some_iff.1 hg.symm
           obtain ⟨y,hy,hry⟩:=h2 (m - k) (by omega)
           have hidx:(ρ id).base + (j * sz + m) - ((ρ id).base + (j * sz + k))=m - k:=by omega
           refine ⟨y,by rw [hidx];simpa using hy,?_⟩
           rw [← he]
           exact hry.mono (ze.1 (h4 _ hs) _ (List.getElem_mem _)) hst (fun _ _=>rfl)
          ·rename_i hr1
           rw [if_neg (by omega)]
           obtain ⟨hlt,he⟩:=List.getElem?_eq_some_iff.1 hg.symm
           obtain ⟨y,hy,hry⟩:=hcell j m hjl (by rw [hxe];exact hlt)
           refine ⟨y,by simpa using hy,?_⟩
           rw [← he]
           have:(xs[j])[m]'(by rw [hxe];exact hlt)=x[m]:=by simp [hxe]
           rw [← this]
           exact hry.mono (ze.1 (H.scope id _ hb) _ (List.mem_flatten.2 ⟨_,List.getElem_mem _,List.getElem_mem _⟩)) hst (fun _ _=>rfl)
         ·have e1:(xs.set j (kK x k vs))[i]'hi=xs[i]:=by rw [List.getElem_set_ne hij]
          have hne:¬ ((ρ id).base + (j * sz + k) ≤ (ρ id).base + (i * sz + m) ∧ (ρ id).base + (i * sz + m) < (ρ id).base + (j * sz + k) + vs.length):=by
           rcases Nat.lt_or_ge i j with hlt | hge
           ·have:(i + 1) * sz ≤ j * sz:=Nat.mul_le_mul_right sz hlt
            rw [Nat.add_mul,Nat.one_mul] at this
            omega
           ·have:(j + 1) * sz ≤ i * sz:=Nat.mul_le_mul_right sz (by omega)
            rw [Nat.add_mul,Nat.one_mul] at this
            omega
          rw [if_neg hne]
          have hlx:(xs[i]).length=sz:=hszs _ (List.getElem_mem _)
          obtain ⟨y,hy,hry⟩:=hcell i m hi' (by omega)
          refine ⟨y,by simpa using hy,?_⟩
          have:((xs.set j (kK x k vs))[i]'hi)[m]'hm=(xs[i])[m]'(by omega):=by simp [e1]
          rw [this]
          exact hry.mono (ze.1 (H.scope id _ hb) _ (List.mem_flatten.2 ⟨_,List.getElem_mem _,List.getElem_mem _⟩)) hst (fun _ _=>rfl)
      ·cases hU
     ·cases hU
    ·cases hU
   ·cases hU
  ·cases hU
 ·cases hU
end Go.Ev
namespace Go.Ev
open Go.RowKit
variable [qo]
theorem zaW {n:Int} (h0:0 ≤ n) (h1:n ≤ 9223372036854775807):IntKind.i64.wrap n=n:=by
 rw [IntKind.wrap_i64];omega
theorem Jx {P:Program} {E:Env} (T:zE P E) {w:World} {t e:TypeId} {n:Int} {sz by_:Nat} {z:List CV} (hu:E.und t=some (.slice e)) (h0:0 ≤ n) (hm:n ≤ 9223372036854775807) (hsz:E.size e=some sz) (hby:E.bytes e=some by_) (hz:E.zero e=some z)
  (hp:0 < sz) (hzl:z.length=sz) (hb:by_ * n.toNat ≤ 281474976710656) :
  ∃ C:Array Value,(Instr.makeSlice t (.int .i64 n) (.int .i64 n)).run P w = .ok (.slice (some ⟨w.heap.size,0,none⟩) n.toNat n.toNat) (w.alloc (.cells C e)) ∧ C.size=n.toNat * sz ∧
   ∀ N (W:World) (j i:Nat) (hj:j < n.toNat) (hi:i < z.length),∃ x,C[j * sz + i]?=some x ∧ kX W N z[i] x:=by
 obtain ⟨i0,hi0,hbe⟩:=T.bytes e by_ hby
 obtain ⟨i1,v,hi1,hv,hl⟩:=T.zero e z hz
 rw [hi0] at hi1;cases hi1
 have hcs:v.cells.size=sz:=by have:=(qy (w:=w) (N:=fun _=>True) (ρ:=default) hl).1;omega
 have hlarge:¬ ((i0.bytes:Int) * n > 2 ^ 48):=by
  rw [hbe]
  have:((by_ * n.toNat:Nat):Int) ≤ 281474976710656:=Int.ofNat_le.2 hb
  rw [Int.natCast_mul,Int.toNat_of_nonneg h0] at this
  have h2:(2:Int) ^ 48=281474976710656:=by simp
  omega
 let zero:Array Value:=if n.toNat * sz=0 then #[] else v.cells
 refine ⟨(Array.range (n.toNat * sz)).map (fun i=>zero[i % zero.size]!),?_,by simp,fun N W j i hj hi=>?_⟩
 ·simp only [Instr.makeSlice,Sem.run_bind,T.zt hu,Result.andThen_ok,asInt,asIntOf,Sem.run_pure,typeInfo,run_program,hi0,zaW h0 hm,T.zM hsz]
  have c1:¬ (n < 0):=by omega
  simp only [c1,hlarge,decide_false,Bool.or_self,Bool.false_eq_true,if_false,Sem.run_pure,Int.lt_irrefl,Result.andThen_ok,run_askRoom,gt_iff_lt]
  by_cases hz0:n.toNat * sz=0
  ·simp [hz0,newRow,zero,T.zM hsz]
  ·simp [hz0,newRow,zero,zeroValue,typeInfo,hi0,hv,T.zM hsz]
 ·have hnz:¬ n.toNat * sz=0:=by
   have:1 * 1 ≤ n.toNat * sz:=Nat.mul_le_mul (by omega) hp
   omega
  obtain ⟨_,h2⟩:=qy (w:=W) (N:=N) (ρ:=default) hl
  obtain ⟨x,hx,hr⟩:=h2 i hi
  refine ⟨x,?_,hr⟩
  have hlt:j * sz + i < n.toNat * sz:=by
   have:(j + 1) * sz ≤ n.toNat * sz:=Nat.mul_le_mul_right sz hj
   rw [Nat.add_mul,Nat.one_mul] at this;omega
  have hmod:(j * sz + i) % sz=i:=by rw [Nat.mul_comm,Nat.mul_add_mod];exact Nat.mod_eq_of_lt (by omega)
  have hz2:zero=v.cells:=by simp [zero,hnz]
  obtain ⟨hli,hle⟩:=Array.getElem?_eq_some_iff.1 hx
  rw [Array.getElem?_map,Array.getElem?_range,if_pos hlt]
  simp only [Option.map_some,hz2,hcs,hmod]
  rw [getElem!_pos v.cells i hli,hle]
theorem zn.vec {N:Nat → Prop} {h:List zf} {ρ:Nat → Pl} {w w':World} {nw:Nat} {e:TypeId} {sz len cap:Nat} {C:Array Value} {t:TypeId} {fr:Nat × Nat} {xs:List (List AV)} (H:zw N h ρ w) (hf:kA h nw) (hm:Made w w')
  (hh:w'.heap[w.heap.size]?=some (.cells C t fr)) (hfr:zjl C.size fr) (hlen:xs.length=len) (hcap:len ≤ cap) (hcm:cap ≤ 9223372036854775807) (hC:cap * sz ≤ C.size) (hel:∀ x,x ∈ xs → x.length=sz) (hsc:AV.sc.scAll (born h) xs.flatten=true)
  (hcell:∀ (j i:Nat) (hj:j < xs.length) (hi:i < (xs[j]).length),∃ x,C[j * sz + i]?=some x ∧ zo w' N ρ (xs[j])[i] x) :
  zn N h ρ w (.sl nw 0 len) (qW h nw (.vec sz e xs)) (.slice (some ⟨w.heap.size,0,none⟩) len cap) w':=by
 let p:Pl:=⟨w.heap.size,0,C.size,sz,false⟩
 have hle:xs.length * sz ≤ cap * sz:=Nat.mul_le_mul_right sz (by omega)
 refine zn.new (p:=p) H hf hm (fun _=>Nat.le_refl _) (by simp) hsc ⟨rfl,hel,.inr ⟨rfl,C,t,fr,hh,hfr,rfl,by simp [p];omega,fun j i hj hi=>?_⟩⟩ ?_ (by simp [AV.sc])
 ·obtain ⟨x,hx,hr⟩:=hcell j i hj hi
  refine ⟨x,by simp [p,hx],hr.mono (ze.1 hsc _ (List.mem_flatten.2 ⟨_,List.getElem_mem hj,List.getElem_mem hi⟩)) (fun b hb=>⟨hb,rfl⟩) fun i hi=>kF fun e=>?_⟩
  subst e;rw [hf.zy] at hi;cases hi
 ·have:=zo.sl (w:=w') (N:=N) (ρ:=upd ρ nw p) nw 0 len cap 0 (by simp [p]) (by simp [p]) hcap (by simp [p];omega) hcm
  rw [zV] at this;exact this
theorem zn.row {N:Nat → Prop} {h:List zf} {ρ:Nat → Pl} {w w':World} {nw:Nat} {e:TypeId} {sz len cap:Nat} {C:Array Value} {t:TypeId} {fr:Nat × Nat} {xs:List (List CV)} (H:zw N h ρ w) (hf:kA h nw) (hm:Made w w')
  (hh:w'.heap[w.heap.size]?=some (.cells C t fr)) (hfr:zjl C.size fr) (hlen:xs.length=len) (hcap:len ≤ cap) (hcm:cap ≤ 9223372036854775807) (hC:cap * sz ≤ C.size) (hel:∀ x,x ∈ xs → x.length=sz)
  (hcell:∀ (j i:Nat) (hj:j < xs.length) (hi:i < (xs[j]).length),∃ x,C[j * sz + i]?=some x ∧ kX w' N (xs[j])[i] x) :
  zn N h ρ w (.sl nw 0 len) (qW h nw (.rows sz e xs)) (.slice (some ⟨w.heap.size,0,none⟩) len cap) w':=by
 let p:Pl:=⟨w.heap.size,0,C.size,sz,false⟩
 have hle:xs.length * sz ≤ cap * sz:=Nat.mul_le_mul_right sz (by omega)
 refine zn.new (p:=p) H hf hm (fun _=>Nat.le_refl _) (by simp) rfl ⟨rfl,hel,.inr ⟨rfl,C,t,fr,hh,hfr,rfl,by simp [p];omega,fun j i hj hi=>?_⟩⟩ ?_ (by simp [AV.sc])
 ·obtain ⟨x,hx,hr⟩:=hcell j i hj hi
  exact ⟨x,by simp [p,hx],hr⟩
 ·have:=zo.sl (w:=w') (N:=N) (ρ:=upd ρ nw p) nw 0 len cap 0 (by simp [p]) (by simp [p]) hcap (by simp [p];omega) hcm
  rw [zV] at this;exact this
theorem zn.kI {E:Env} {N:Nat → Prop} {h:List zf} {ρ:Nat → Pl} {w w':World} {nw:Nat} {e:TypeId} {sz len cap:Nat} {C:Array Value} {t:TypeId} {fr:Nat × Nat} {xs:List (List CV)} (H:zw N h ρ w) (hf:kA h nw) (hm:Made w w')
  (hh:w'.heap[w.heap.size]?=some (.cells C t fr)) (hfr:zjl C.size fr) (hlen:xs.length=len) (hcap:len ≤ cap) (hcm:cap ≤ 9223372036854775807) (hC:cap * sz ≤ C.size) (hel:∀ x,x ∈ xs → x.length=sz)
  (hcell:∀ (j i:Nat) (hj:j < xs.length) (hi:i < (xs[j]).length),∃ x,C[j * sz + i]?=some x ∧ kX w' N (xs[j])[i] x) :
  zn N h ρ w (.sl nw 0 len) (qW h nw (Ev.kI E sz e xs)) (.slice (some ⟨w.heap.size,0,none⟩) len cap) w':=by
 unfold Ev.kI;split
 ·refine zn.vec H hf hm hh hfr (by simpa using hlen) hcap hcm hC (fun x hx=>?_) (KF (sz:=sz) (e:=e)) (fun j i hj hi=>?_)
  ·obtain ⟨y,hy,rfl⟩:=List.mem_map.1 hx
   rw [List.length_map];exact hel y hy
  ·have hj':j < xs.length:=by simpa using hj
   obtain ⟨x,hx,hr⟩:=hcell j i hj' (by simpa using hi)
   exact ⟨x,hx,by simpa using zo.c hr⟩
 ·exact zn.row H hf hm hh hfr hlen hcap hcm hC hel hcell
theorem Qx {P:Program} {E:Env} (T:zE P E) {N:Nat → Prop} {h:List zf} {ρ:Nat → Pl} {w:World} (H:zw N h ρ w) {t:TypeId} {l c v:AV} {L C:Value} {nw:Nat} {U:List (Nat × zf)} (hf:kA h nw) (hl:zo w N ρ l L) (hc:zo w N ρ c C) (hv:wo E t l c nw=some (v,U)) :
  ∃ y w',(Instr.makeSlice t L C).run P w = .ok y w' ∧ zn N h ρ w v (app h U) y w':=by
 unfold wo at hv
 split at hv
 ·rename_i e k n k' m hu
  cases hl.int_eq;cases hc.int_eq
  split at hv
  ·rename_i hcond
   obtain ⟨rfl,rfl,rfl,h0⟩:=hcond
   split at hv
   ·rename_i sz by_ z hsz hby hz
    split at hv
    ·rename_i hc2
     obtain ⟨hp,hzl,hb,hm⟩:=hc2
     cases hv
     obtain ⟨A,hr,hA,hcell⟩:=Jx (w:=w) T hu h0 hm hsz hby hz hp hzl hb
     refine ⟨_,_,hr,?_⟩
     exact zn.kI H hf (Made.alloc w _) (qZ w _) (vz _) (by simp) (Nat.le_refl _) (by omega) (by omega) (fun x hx=>by rw [(List.mem_replicate.1 hx).2];exact hzl) (fun j i hj hi=>by
      obtain ⟨x,hx,hr⟩:=hcell N _ j i (by rw [List.length_replicate] at hj;exact hj) (by simpa using hi)
      exact ⟨x,hx,by simpa using hr⟩)
    ·cases hv
   ·cases hv
  ·cases hv
 ·cases hv
theorem Jc {w:World} {N:Nat → Prop} {ρ:Nat → Pl} {sz:Nat}:∀ (ps:List (Nat × AV)) (qs:List (Nat × Value)) (k:Nat) (xs:List (List CV)) (C:Array Value),wS sz k ps=some xs → ps.length=qs.length →
   (∀ (i:Nat) (h1:i < ps.length) (h2:i < qs.length),ps[i].1=qs[i].1 ∧ zo w N ρ ps[i].2 qs[i].2) → (k + ps.length) * sz ≤ C.size →
   ∃ D,Instr.fill (fun i=>some (i * sz,sz)) C qs=some D ∧ D.size=C.size ∧ xs.length=ps.length ∧ (∀ x,x ∈ xs → x.length=sz) ∧ (∀ n,n < k * sz → D[n]?=C[n]?) ∧
    (∀ (j i:Nat) (hj:j < xs.length) (hi:i < (xs[j]).length),∃ x,D[(k + j) * sz + i]?=some x ∧ kX w N (xs[j])[i] x)
 | [],[],k,xs,C,h,_,_,_=>by
  simp [wS] at h;subst h
  exact ⟨C,rfl,rfl,rfl,by simp,fun _ _=>rfl,fun j i hj=>absurd hj (by simp)⟩
 | (i0,v) :: ps,[],k,xs,C,_,hl,_,_=>by simp at hl
 | [],q :: qs,k,xs,C,_,hl,_,_=>by simp at hl
 | (i0,v) :: ps,(i1,X) :: qs,k,xs,C,h,hl,hr,hC=>by
  have h0:=hr 0 (by simp) (by simp)
  simp at h0
  obtain ⟨rfl,hvX⟩:=h0
  unfold wS at h
  split at h
  ·rename_i hik
   subst hik
   split at h
   ·rename_i vs hc
    split at h
    ·rename_i el l hel hlst
     split at h
     ·rename_i hsz
      cases h
      obtain ⟨h1,h2,h3,h4⟩:=v7 hvX hc
      have hll:=ki hel
      simp only [List.length_cons] at hC hl
      have hC2:(i0 + 1) * sz ≤ (i0 + (ps.length + 1)) * sz:=Nat.mul_le_mul_right sz (by omega)
      have hadd:(i0 + 1) * sz=i0 * sz + sz:=by rw [Nat.add_mul,Nat.one_mul]
      have hfold:∀ (vs:List Value) (k0 off:Nat) (C:Array Value),((vs.zipIdx k0).foldl (fun cs (c,j)=>cs.setIfInBounds (off + j) c) C)=(kK C.toList (off + k0) vs).toArray:=by
       intro vs
       induction vs with
       | nil=>intro k0 off C;simp [kK]
       | cons u us ih =>
        intro k0 off C
        rw [List.zipIdx_cons,List.foldl_cons,ih,kK,Array.toList_setIfInBounds,Nat.add_assoc]
      obtain ⟨D,hD,hDs,hxl,hxs,hlow,hcell⟩:=Jc (w:=w) (N:=N) (ρ:=ρ) ps qs (i0 + 1) l (kK C.toList (i0 * sz) X.cells.toList).toArray hlst (by omega) (fun i a b=>hr (i + 1) (by simp;omega) (by simp;omega)) (by simp [zp];rw [show i0 + 1 + ps.length=i0 + (ps.length + 1) by omega];exact hC)
      have hXl:X.cells.toList.length=sz:=by simp;omega
      have hXs:X.cells.size=sz:=by omega
      have e0:(i0 + 0) * sz=i0 * sz:=by rw [Nat.add_zero]
      refine ⟨D,?_,by rw [hDs];simp [zp],by simp [hxl],fun x hx=>?_,fun n hn=>?_,fun j i hj hi=>?_⟩
      ·unfold Instr.fill
       simp only
       rw [if_neg (show ¬ ((decide (X.cells.size ≠ sz) || decide (i0 * sz + X.cells.size > C.size))=true) by simp;omega)]
       have:=hfold X.cells.toList 0 (i0 * sz) C
       rw [Nat.add_zero] at this
       rw [← Array.foldl_toList,Array.toList_zipIdx,this]
       exact hD
      ·rcases List.mem_cons.1 hx with rfl | hx
       ·exact hsz
       ·exact hxs x hx
      ·rw [hlow n (by omega)]
       simp only [List.getElem?_toArray]
       rw [qm _ _ _ _ (by rw [hXl];simp;omega),if_neg (by omega)]
       simp
      ·cases j with
       | zero =>
        have hi':i < sz:=by simpa [hsz] using hi
        rw [hlow _ (by omega)]
        simp only [List.getElem?_toArray]
        rw [qm _ _ _ _ (by rw [hXl];simp;omega),if_pos (by rw [hXl,e0];omega)]
        obtain ⟨x,hx,hrx⟩:=h2 i (by omega)
        refine ⟨x,by rw [Nat.add_zero,Nat.add_sub_cancel_left];simpa using hx,?_⟩
        exact vp _ _ _ (vA hel i (by omega) (by simpa using hi)) hrx
       | succ j =>
        obtain ⟨x,hx,hrx⟩:=hcell j i (by simpa using hj) (by simpa using hi)
        exact ⟨x,by rw [show i0 + (j + 1)=i0 + 1 + j by omega];exact hx,hrx⟩
     ·cases h
    ·cases h
   ·cases h
  ·cases h
theorem Vb {w:World} {N:Nat → Prop} {ρ:Nat → Pl} {sz:Nat}:∀ (ps:List (Nat × AV)) (qs:List (Nat × Value)) (k:Nat) (xs:List (List AV)) (C:Array Value),vR sz k ps=some xs → ps.length=qs.length →
   (∀ (i:Nat) (h1:i < ps.length) (h2:i < qs.length),ps[i].1=qs[i].1 ∧ zo w N ρ ps[i].2 qs[i].2) → (k + ps.length) * sz ≤ C.size →
   ∃ D,Instr.fill (fun i=>some (i * sz,sz)) C qs=some D ∧ D.size=C.size ∧ xs.length=ps.length ∧ (∀ x,x ∈ xs → x.length=sz) ∧ (∀ n,n < k * sz → D[n]?=C[n]?) ∧
    (∀ (j i:Nat) (hj:j < xs.length) (hi:i < (xs[j]).length),∃ x,D[(k + j) * sz + i]?=some x ∧ zo w N ρ (xs[j])[i] x)
 | [],[],k,xs,C,h,_,_,_=>by
  simp [vR] at h;subst h
  exact ⟨C,rfl,rfl,rfl,by simp,fun _ _=>rfl,fun j i hj=>absurd hj (by simp)⟩
 | (i0,v) :: ps,[],k,xs,C,_,hl,_,_=>by simp at hl
 | [],q :: qs,k,xs,C,_,hl,_,_=>by simp at hl
 | (i0,v) :: ps,(i1,X) :: qs,k,xs,C,h,hl,hr,hC=>by
  have h0:=hr 0 (by simp) (by simp)
  simp at h0
  obtain ⟨rfl,hvX⟩:=h0
  unfold vR at h
  split at h
  ·rename_i hik
   subst hik
   split at h
   ·rename_i vs l hc hlst
    split at h
    ·skip
     ·rename_i hsz
      cases h
      obtain ⟨h1,h2,h3,h4⟩:=v7 hvX hc
      simp only [List.length_cons] at hC hl
      have hC2:(i0 + 1) * sz ≤ (i0 + (ps.length + 1)) * sz:=Nat.mul_le_mul_right sz (by omega)
      have hadd:(i0 + 1) * sz=i0 * sz + sz:=by rw [Nat.add_mul,Nat.one_mul]
      have hfold:∀ (vs:List Value) (k0 off:Nat) (C:Array Value),((vs.zipIdx k0).foldl (fun cs (c,j)=>cs.setIfInBounds (off + j) c) C)=(kK C.toList (off + k0) vs).toArray:=by
       intro vs
       induction vs with
       | nil=>intro k0 off C;simp [kK]
       | cons u us ih =>
        intro k0 off C
        rw [List.zipIdx_cons,List.foldl_cons,ih,kK,Array.toList_setIfInBounds,Nat.add_assoc]
      obtain ⟨D,hD,hDs,hxl,hxs,hlow,hcell⟩:=Vb (w:=w) (N:=N) (ρ:=ρ) ps qs (i0 + 1) l (kK C.toList (i0 * sz) X.cells.toList).toArray hlst (by omega) (fun i a b=>hr (i + 1) (by simp;omega) (by simp;omega)) (by simp [zp];rw [show i0 + 1 + ps.length=i0 + (ps.length + 1) by omega];exact hC)
      have hXl:X.cells.toList.length=sz:=by simp;omega
      have hXs:X.cells.size=sz:=by omega
      have e0:(i0 + 0) * sz=i0 * sz:=by rw [Nat.add_zero]
      refine ⟨D,?_,by rw [hDs];simp [zp],by simp [hxl],fun x hx=>?_,fun n hn=>?_,fun j i hj hi=>?_⟩
      ·unfold Instr.fill
       simp only
       rw [if_neg (show ¬ ((decide (X.cells.size ≠ sz) || decide (i0 * sz + X.cells.size > C.size))=true) by simp;omega)]
       have:=hfold X.cells.toList 0 (i0 * sz) C
       rw [Nat.add_zero] at this
       rw [← Array.foldl_toList,Array.toList_zipIdx,this]
       exact hD
      ·rcases List.mem_cons.1 hx with rfl | hx
       ·exact hsz
       ·exact hxs x hx
      ·rw [hlow n (by omega)]
       simp only [List.getElem?_toArray]
       rw [qm _ _ _ _ (by rw [hXl];simp;omega),if_neg (by omega)]
       simp
      ·cases j with
       | zero =>
        have hi':i < sz:=by simpa [hsz] using hi
        rw [hlow _ (by omega)]
        simp only [List.getElem?_toArray]
        rw [qm _ _ _ _ (by rw [hXl];simp;omega),if_pos (by rw [hXl,e0];omega)]
        obtain ⟨x,hx,hrx⟩:=h2 i (by omega)
        refine ⟨x,by rw [Nat.add_zero,Nat.add_sub_cancel_left];simpa using hx,?_⟩
        exact hrx
       | succ j =>
        obtain ⟨x,hx,hrx⟩:=hcell j i (by simpa using hj) (by simpa using hi)
        exact ⟨x,by rw [show i0 + (j + 1)=i0 + 1 + j by omega];exact hx,hrx⟩
    ·cases h
   ·cases h
  ·cases h
theorem wW {sz:Nat} {q:Nat → Bool}:∀ (ps:List (Nat × AV)) (k:Nat) (xs:List (List AV)),vR sz k ps=some xs → (∀ p,p ∈ ps → p.2.sc q=true) → ps.length=xs.length ∧ AV.sc.scAll q xs.flatten=true
 | [],k,xs,h,_=>by simp [vR] at h;subst h;exact ⟨rfl,rfl⟩
 | (i,v) :: ps,k,xs,h,hq=>by
  unfold vR at h
  split at h
  ·split at h
   ·rename_i vs l hc hlst
    split at h
    ·cases h
     obtain ⟨h1,h2⟩:=wW ps _ l hlst fun p hp=>hq p (by simp [hp])
     refine ⟨by simp [h1],ze.2 fun x hx=>?_⟩
     rw [List.flatten_cons] at hx
     rcases List.mem_append.1 hx with hx | hx
     ·have hvq:=hq (i,v) (by simp)
      simp only at hvq
      unfold cellsOf at hc
      split at hc
      ·split at hc
       ·cases hc;exact ze.1 hvq x hx
       ·cases hc
      ·split at hc
       ·cases hc
        rcases List.mem_singleton.1 hx with rfl
        exact hvq
       ·cases hc
     ·exact ze.1 h2 x hx
    ·cases h
   ·cases h
  ·cases h
theorem Ve {P:Program} {E:Env} (T:zE P E) {N:Nat → Prop} {h:List zf} {ρ:Nat → Pl} {w:World} (H:zw N h ρ w) {t e:TypeId} {len nw:Nat} {ps:List (Nat × AV)} {qs:Array (Nat × Value)} {v:AV} {U:List (Nat × zf)} (hf:kA h nw)
  (hu:E.und t=some (.slice e)) (hq:∀ p,p ∈ ps → p.2.sc (born h)=true) (hl:ps.length=qs.size) (hr:∀ (i:Nat) (h1:i < ps.length) (h2:i < qs.size),ps[i].1=qs[i].1 ∧ zo w N ρ ps[i].2 qs[i].2) (hv:y8 E e len ps nw=some (v,U)) :
  ∃ y w',(Instr.buildSlice t len qs).run P w = .ok y w' ∧ zn N h ρ w v (app h U) y w':=by
 unfold y8 at hv
 ·split at hv
  ·rename_i sz z hsz hz
   split at hv
   ·rename_i xs hxs
    split at hv
    ·rename_i hc
     obtain ⟨hp,hzl,hxl,hle⟩:=hc
     cases hv
     obtain ⟨i1,v1,hi1,hv1,hl1⟩:=T.zero e z hz
     let zero:Array Value:=if len * sz=0 then #[] else v1.cells
     let C:Array Value:=(Array.range (len * sz)).map (fun i=>zero[i % zero.size]!)
     obtain ⟨D,hD,hDs,hxl2,hel,_,hcell⟩:=Vb (w:=w) (N:=N) (ρ:=ρ) ps qs.toList 0 xs C hxs (by simpa using hl) (fun i a b=>by simpa using hr i a (by simpa using b)) (by
      have h1:ps.length=xs.length:=(wW ps 0 xs hxs hq).1
      simp [C,h1,hxl])
     refine ⟨.slice (some ⟨w.heap.size,0,none⟩) len len,w.alloc (.cells D e),?_,?_⟩
     ·simp only [Instr.buildSlice,Sem.run_bind,T.zt hu,Result.andThen_ok,T.zM hsz]
      have h24:¬ (len * sz > 2 ^ 24):=by (have:(2:Nat) ^ 24=16777216:=by simp);omega
      rw [if_neg h24]
      by_cases hz0:len * sz=0
      ·have hz2:zero = #[]:=by simp [zero,hz0]
       simp only [Sem.run_bind,hz0,if_true,Sem.run_pure,Result.andThen_ok]
       have hC':C=(Array.range 0).map (fun i=>(#[]:Array Value)[i % (#[]:Array Value).size]!):=by simp [C,hz0]
       rw [hC'] at hD
       simp only [hD]
       simp [newRow]
      ·have hz2:zero=v1.cells:=by simp [zero,hz0]
       simp only [Sem.run_bind,hz0,if_false,Sem.run_pure,Result.andThen_ok,zeroValue,typeInfo,run_program,hi1,hv1]
       have hC':C=(Array.range (len * sz)).map (fun i=>v1.cells[i % v1.cells.size]!):=by simp only [C,hz2]
       rw [hC'] at hD
       simp only [hD]
       simp [newRow]
     ·exact zn.vec H hf (Made.alloc w _) (qZ w _) (vz _) hxl (Nat.le_refl _) (by
        have h1:len * 1 ≤ len * sz:=Nat.mul_le_mul_left len hp
        omega) (by rw [hDs];simp [C]) hel (wW ps 0 xs hxs hq).2 (fun j i hj hi=>by
       obtain ⟨x,hx,hrx⟩:=hcell j i hj hi
       refine ⟨x,by rw [Nat.zero_add] at hx;exact hx,?_⟩
       exact hrx.mono (ze.1 (wW ps 0 xs hxs hq).2 _ (List.mem_flatten.2 ⟨_,List.getElem_mem hj,List.getElem_mem hi⟩)) (fun b hN=>⟨hN,(Made.alloc w (.cells D e)).old b (H.lt b hN)⟩) (fun _ _=>rfl))
    ·cases hv
   ·cases hv
  ·cases hv
theorem ZH {P:Program} {E:Env} (T:zE P E) {N:Nat → Prop} {h:List zf} {ρ:Nat → Pl} {w:World} (H:zw N h ρ w) {t:TypeId} {len nw:Nat} {ps:List (Nat × AV)} {qs:Array (Nat × Value)} {v:AV} {U:List (Nat × zf)} (hf:kA h nw)
  (hq:∀ p,p ∈ ps → p.2.sc (born h)=true) (hl:ps.length=qs.size) (hr:∀ (i:Nat) (h1:i < ps.length) (h2:i < qs.size),ps[i].1=qs[i].1 ∧ zo w N ρ ps[i].2 qs[i].2) (hv:jk E t len ps nw=some (v,U)) :
  ∃ y w',(Instr.buildSlice t len qs).run P w = .ok y w' ∧ zn N h ρ w v (app h U) y w':=by
 unfold jk at hv
 split at hv
 ·rename_i e hu
  split at hv
  ·exact Ve T H hf hu hq hl hr hv
  split at hv
  ·rename_i sz z hsz hz
   split at hv
   ·rename_i xs hxs
    split at hv
    ·rename_i hc
     obtain ⟨hp,hzl,hxl,hle⟩:=hc
     cases hv
     obtain ⟨i1,v1,hi1,hv1,hl1⟩:=T.zero e z hz
     let zero:Array Value:=if len * sz=0 then #[] else v1.cells
     let C:Array Value:=(Array.range (len * sz)).map (fun i=>zero[i % zero.size]!)
     obtain ⟨D,hD,hDs,hxl2,hel,_,hcell⟩:=Jc (w:=w) (N:=N) (ρ:=ρ) ps qs.toList 0 xs C hxs (by simpa using hl) (fun i a b=>by simpa using hr i a (by simpa using b)) (by
      have h1:ps.length=xs.length:=by
       have:∀ (ps:List (Nat × AV)) (k:Nat) (xs:List (List CV)),wS sz k ps=some xs → ps.length=xs.length:=by
        intro ps
        induction ps with
        | nil=>intro k xs h;simp [wS] at h;subst h;rfl
        | cons p ps ih =>
         intro k xs h
         obtain ⟨i,v⟩:=p
         unfold wS at h
         split at h
         ·split at h
          ·split at h
           ·split at h
            ·cases h;rename_i l _ _ _;simp [ih _ _ ‹_›]
            ·cases h
           ·cases h
          ·cases h
         ·cases h
       exact this ps 0 xs hxs
      simp [C,h1,hxl])
     refine ⟨.slice (some ⟨w.heap.size,0,none⟩) len len,w.alloc (.cells D e),?_,?_⟩
     ·simp only [Instr.buildSlice,Sem.run_bind,T.zt hu,Result.andThen_ok,T.zM hsz]
      have h24:¬ (len * sz > 2 ^ 24):=by (have:(2:Nat) ^ 24=16777216:=by simp);omega
      rw [if_neg h24]
      by_cases hz0:len * sz=0
      ·have hz2:zero = #[]:=by simp [zero,hz0]
       simp only [Sem.run_bind,hz0,if_true,Sem.run_pure,Result.andThen_ok]
       have hC':C=(Array.range 0).map (fun i=>(#[]:Array Value)[i % (#[]:Array Value).size]!):=by simp [C,hz0]
       rw [hC'] at hD
       simp only [hD]
       simp [newRow]
      ·have hz2:zero=v1.cells:=by simp [zero,hz0]
       simp only [Sem.run_bind,hz0,if_false,Sem.run_pure,Result.andThen_ok,zeroValue,typeInfo,run_program,hi1,hv1]
       have hC':C=(Array.range (len * sz)).map (fun i=>v1.cells[i % v1.cells.size]!):=by simp only [C,hz2]
       rw [hC'] at hD
       simp only [hD]
       simp [newRow]
     ·exact zn.row H hf (Made.alloc w _) (qZ w _) (vz _) hxl (Nat.le_refl _) (by
        have h1:len * 1 ≤ len * sz:=Nat.mul_le_mul_left len hp
        omega) (by rw [hDs];simp [C]) hel (fun j i hj hi=>by
       obtain ⟨x,hx,hrx⟩:=hcell j i hj hi
       refine ⟨x,by rw [Nat.zero_add] at hx;exact hx,?_⟩
       exact hrx.mono (fun b hN=>⟨hN,(Made.alloc w (.cells D e)).old b (H.lt b hN)⟩))
    ·cases hv
   ·cases hv
  ·cases hv
 ·cases hv
end Go.Ev
namespace Go.Ev
open Go.RowKit
variable [qo]
def Pt (w:World) (N:Nat → Prop) (ρ:Nat → Pl) (us:List AV) (C:Array Value):Prop:=us.length=C.size ∧ ∀ (i:Nat) (hi:i < us.length),∃ x,C[i]?=some x ∧ zo w N ρ us[i] x
theorem Pt.set {w:World} {N:Nat → Prop} {ρ:Nat → Pl} {us vs:List AV} {C D:Array Value} (h:Pt w N ρ us C) (hv:Pt w N ρ vs D) {off:Nat} (hle:off + vs.length ≤ us.length):Pt w N ρ (kK us off vs) (kK C.toList off D.toList).toArray:=by
 refine ⟨by simp [zp,h.1],fun i hi=>?_⟩
 have hi':i < us.length:=by simpa [zp] using hi
 have hg:=qm vs us off i hle
 rw [List.getElem?_eq_getElem hi] at hg
 have hgV:=qm D.toList C.toList off i (by simp [← h.1,← hv.1];omega)
 simp only [List.getElem?_toArray,hgV,Array.length_toList,← hv.1]
 split at hg
 ·rename_i hr
  rw [if_pos hr]
  obtain ⟨hlt,he⟩:=List.getElem?_eq_some_iff.1 hg.symm
  obtain ⟨x,hx,hrx⟩:=hv.2 (i - off) hlt
  exact ⟨x,by simpa using hx,by rw [← he];exact hrx⟩
 ·rename_i hr
  rw [if_neg hr]
  obtain ⟨hlt,he⟩:=List.getElem?_eq_some_iff.1 hg.symm
  obtain ⟨x,hx,hrx⟩:=h.2 i hlt
  exact ⟨x,by simpa using hx,by rw [← he];exact hrx⟩
theorem zfD (off:Nat) (X:Array Value) (C:Array Value):(X.zipIdx.foldl (fun cs (c,j)=>cs.setIfInBounds (off + j) c) C)=(kK C.toList off X.toList).toArray:=by
 have hfold:∀ (vs:List Value) (k0 off:Nat) (C:Array Value),((vs.zipIdx k0).foldl (fun cs (c,j)=>cs.setIfInBounds (off + j) c) C)=(kK C.toList (off + k0) vs).toArray:=by
  intro vs
  induction vs with
  | nil=>intro k0 off C;simp [kK]
  | cons u us ih =>
   intro k0 off C
   rw [List.zipIdx_cons,List.foldl_cons,ih,kK,Array.toList_setIfInBounds,Nat.add_assoc]
 have:=hfold X.toList 0 off C
 rw [Nat.add_zero] at this
 rw [← Array.foldl_toList,Array.toList_zipIdx,this]
theorem yI {w:World} {N:Nat → Prop} {ρ:Nat → Pl} {place:Nat → Option (Nat × Nat)}:∀ (ps:List (Nat × AV)) (qs:List (Nat × Value)) (us us':List AV) (C:Array Value),Pt w N ρ us C → Kd place us ps=some us' → ps.length=qs.length →
   (∀ (i:Nat) (h1:i < ps.length) (h2:i < qs.length),ps[i].1=qs[i].1 ∧ zo w N ρ ps[i].2 qs[i].2) →
   ∃ D,Instr.fill place C qs=some D ∧ Pt w N ρ us' D ∧ ∀ q,AV.sc.scAll q us=true → (∀ p,p ∈ ps → p.2.sc q=true) → AV.sc.scAll q us'=true
 | [],[],us,us',C,hp,h,_,_=>by
  simp [Kd] at h;subst h
  exact ⟨C,rfl,hp,fun q h _=>h⟩
 | p :: ps,[],us,us',C,hp,h,hl,_=>by simp at hl
 | [],q :: qs,us,us',C,hp,h,hl,_=>by simp at hl
 | (i0,v) :: ps,(i1,X) :: qs,us,us',C,hp,h,hl,hr=>by
  have h0:=hr 0 (by simp) (by simp)
  simp at h0
  obtain ⟨rfl,hvX⟩:=h0
  unfold Kd at h
  split at h
  ·rename_i off size vs hpl hc
   split at h
   ·rename_i hcond
    obtain ⟨h1,h2,h3,h4⟩:=v7 hvX hc
    obtain ⟨D,hD,hpD,hsD⟩:=yI ps qs (kK us off vs) us' (kK C.toList off X.cells.toList).toArray (hp.set ⟨h1.symm,h2⟩ hcond.2) h (by simpa using hl) (fun i a b=>hr (i + 1) (by simp;omega) (by simp;omega))
    refine ⟨D,?_,hpD,fun q hq hps=>hsD q ?_ (fun p hp=>hps p (by simp [hp]))⟩
    ·unfold Instr.fill
     simp only [hpl]
     rw [if_neg (show ¬ ((decide (X.cells.size ≠ size) || decide (off + X.cells.size > C.size))=true) by simp;have:=hp.1;omega),zfD]
     exact hD
    ·refine ze.2 fun x hx=>?_
     obtain ⟨i,hi,rfl⟩:=List.getElem_of_mem hx
     have hg:=qm vs us off i hcond.2
     rw [List.getElem?_eq_getElem hi] at hg
     split at hg
     ·exact ze.1 (h4 _ (hps (i0,v) (by simp))) _ (List.mem_of_getElem? hg.symm)
     ·exact ze.1 hq _ (List.mem_of_getElem? hg.symm)
   ·cases h
  ·cases h
theorem Q3 {P:Program} {E:Env} (T:zE P E) (w:World):∀ (fs:List Field) (pl:List (Nat × Nat)),xm E fs=some pl → (fs.mapM fun f=>Prod.mk f.offset <$> sizeOf f.type).run P w = .ok pl w
 | [],pl,h=>by simp [xm] at h;subst h;rfl
 | f :: fs,pl,h=>by
  unfold xm at h
  split at h
  ·rename_i n l hn hl
   cases h
   simp [List.mapM_cons,T.zM hn,Q3 T w fs l hl]
  ·cases h
theorem Pt.agg {w:World} {N:Nat → Prop} {ρ:Nat → Pl} {us:List AV} {C:Array Value} (h:Pt w N ρ us C):zo w N ρ (.agg us) (.agg C):=by
 have:=zo.agg (w:=w) (N:=N) (ρ:=ρ) us C.toList (by simpa using h.1) (fun i a b=>by
  obtain ⟨x,hx,hr⟩:=h.2 i a
  obtain ⟨hlt,rfl⟩:=Array.getElem?_eq_some_iff.1 hx
  simpa using hr)
 simpa using this
theorem Pt.lit {w:World} {N:Nat → Prop} {ρ:Nat → Pl} {v:Value} {z:List CV} (h:Za v.cells.toList=some z):Pt w N ρ (z.map .c) v.cells:=by
 obtain ⟨h1,h2⟩:=qy (w:=w) (N:=N) (ρ:=ρ) h
 refine ⟨by simp [h1],fun i hi=>?_⟩
 obtain ⟨x,hx,hr⟩:=h2 i (by simpa using hi)
 exact ⟨x,hx,by simpa using zo.c hr⟩
theorem Xx {P:Program} {E:Env} (T:zE P E) {w:World} {N:Nat → Prop} {ρ:Nat → Pl} {t:TypeId} {fs:Array Field} {z:List CV} {pl:List (Nat × Nat)} {ps:List (Nat × AV)} {qs:Array (Nat × Value)} {us:List AV} (hu:E.und t=some (.struct fs)) (hz:E.zero t=some z) (hpl:xm E fs.toList=some pl)
  (hf:Kd (fun i=>pl[i]?) (z.map .c) ps=some us) (hl:ps.length=qs.size) (hr:∀ (i:Nat) (h1:i < ps.length) (h2:i < qs.size),ps[i].1=qs[i].1 ∧ zo w N ρ ps[i].2 qs[i].2) :
  ∃ y,(Instr.build t qs).run P w = .ok y w ∧ zo w N ρ (.agg us) y ∧ ∀ q,(∀ p,p ∈ ps → p.2.sc q=true) → (AV.agg us).sc q=true:=by
 obtain ⟨i1,v1,hi1,hv1,hl1⟩:=T.zero t z hz
 obtain ⟨D,hD,hpD,hsD⟩:=yI ps qs.toList (z.map .c) us v1.cells (Pt.lit hl1) hf (by simpa using hl) (fun i a b=>by simpa using hr i a (by simpa using b))
 refine ⟨.agg D,?_,hpD.agg,fun q hq=>hsD q (xT z) hq⟩
 simp [Instr.build,T.zt hu,typeInfo,zeroValue,hi1,hv1,Array.mapM_eq_mapM_toList,Q3 T w _ _ hpl,hD]
theorem Yw {P:Program} {E:Env} (T:zE P E) {w:World} {N:Nat → Prop} {ρ:Nat → Pl} {t e:TypeId} {n sz:Nat} {z:List CV} {ps:List (Nat × AV)} {qs:Array (Nat × Value)} {us:List AV} (hu:E.und t=some (.array n e)) (hz:E.zero t=some z) (hsz:E.size e=some sz)
  (hf:Kd (fun i=>some (i * sz,sz)) (z.map .c) ps=some us) (hl:ps.length=qs.size) (hr:∀ (i:Nat) (h1:i < ps.length) (h2:i < qs.size),ps[i].1=qs[i].1 ∧ zo w N ρ ps[i].2 qs[i].2) :
  ∃ y,(Instr.build t qs).run P w = .ok y w ∧ zo w N ρ (.agg us) y ∧ ∀ q,(∀ p,p ∈ ps → p.2.sc q=true) → (AV.agg us).sc q=true:=by
 obtain ⟨i1,v1,hi1,hv1,hl1⟩:=T.zero t z hz
 obtain ⟨D,hD,hpD,hsD⟩:=yI ps qs.toList (z.map .c) us v1.cells (Pt.lit hl1) hf (by simpa using hl) (fun i a b=>by simpa using hr i a (by simpa using b))
 refine ⟨.agg D,?_,hpD.agg,fun q hq=>hsD q (xT z) hq⟩
 simp [Instr.build,T.zt hu,typeInfo,zeroValue,hi1,hv1,T.zM hsz,hD]
theorem xA {P:Program} {w:World} {N:Nat → Prop} {ρ:Nat → Pl} (mx:Bool):∀ (n:Nat) (l:List AV) (X:List Value) (v:AV),l.length ≤ n → we mx l=some v → l.length=X.length → (∀ (i:Nat) (h1:i < l.length) (h2:i < X.length),zo w N ρ l[i] X[i]) →
  ∃ x r y,X=x :: r ∧ (r.foldlM (if mx then Builtin.max2 else Builtin.min2) x).run P w = .ok y w ∧ zo w N ρ v y ∧ ∀ q,v.sc q=true
 | 0,l,X,v,hn,h,hl,hr=>by
  have:l=[]:=List.eq_nil_of_length_eq_zero (by omega)
  subst this;simp [we] at h
 | n + 1,l,X,v,hn,h,hl,hr=>by
  unfold we at h
  split at h
  ·rename_i k a
   cases h
   match X,hl,hr with
   | [x],_,hr =>
    have:=(hr 0 (by simp) (by simp)).int_eq
    simp at this;subst this
    exact ⟨_,[],_,rfl,rfl,.c (.int _ _),fun _=>rfl⟩
  ·rename_i k a k' b r
   split at h
   ·rename_i hk
    subst hk
    match X,hl,hr with
    | x :: y :: R,hl,hr =>
     have h0:=(hr 0 (by simp) (by simp)).int_eq
     have h1:=(hr 1 (by simp) (by simp)).int_eq
     simp at h0 h1;subst h0 h1
     obtain ⟨x',r',y',he,hrun,hrep,hs⟩:=xA (P:=P) (w:=w) (N:=N) (ρ:=ρ) mx n _ (.int k (if mx then (if b > a then b else a) else (if b < a then b else a)) :: R) v (by simp at hn ⊢;omega) h (by simpa using hl) (fun i h1 h2=>by
      cases i with
      | zero=>exact .c (.int _ _)
      | succ i=>exact hr (i + 2) (by simp at h1 ⊢;omega) (by simp at h2 ⊢;omega))
     simp only [List.cons.injEq] at he
     obtain ⟨rfl,rfl⟩:=he
     refine ⟨_,_,y',rfl,?_,hrep,hs⟩
     cases mx <;> simpa [List.foldlM_cons,Builtin.max2,Builtin.min2] using hrun
   ·cases h
  ·cases h
end Go.Ev
namespace Go.Ev
open Go.RowKit
variable [qo]
theorem zw.move {N:Nat → Prop} {h:List zf} {ρ:Nat → Pl} {w w':World} {id nw:Nat} {k:zf} {p:Pl} (H:zw N h ρ w) (hl:owns h ρ id) (hf:kA h nw) (hw:xe (ρ id).b w w') (hp:p.b=(ρ id).b) (hku:k ≠ .zy)
  (hs:AV.sc.scAll (born h) k.avs=true) (hb:ka w' N (upd ρ nw p) p k) :
  zw N (qW (qW h id .gone) nw k) (upd ρ nw p) w' ∧ Kept N h ρ w N (qW (qW h id .gone) nw k) (upd ρ nw p) w':=by
 have hlt:id < h.length:=by obtain ⟨⟨k',hk',_⟩,_⟩:=hl;exact (List.getElem?_eq_some_iff.1 hk').1
 have hle:id ≤ h.length:=Nat.le_of_lt hlt
 have hun:=hf.zy
 have hidn:id ≠ nw:=fun e=>by subst e;rw [jv hl.1] at hun;cases hun
 have hlen:(qW h id .gone).length=h.length:=by unfold qW;rw [if_pos hlt];simp
 have hle2:nw ≤ (qW h id .gone).length:=by rw [hlen];exact hf.le
 have hget:∀ i,i ≠ nw → i ≠ id → (qW (qW h id .gone) nw k)[i]?=h[i]?:=fun i h1 h2=>by rw [qR hle2 h1,qR hle h2]
 have hcase:∀ i,owns (qW (qW h id .gone) nw k) (upd ρ nw p) i → i=nw ∨ (i ≠ nw ∧ i ≠ id ∧ owns h ρ i):=fun i hi=>by
  obtain ⟨⟨k',hk',h1⟩,hph⟩:=hi
  by_cases e:i=nw
  ·exact .inl e
  ·by_cases e2:i=id
   ·subst e2
    rw [qR hle2 e,qe hle] at hk';cases hk';simp at h1
   ·rw [hget i e e2] at hk'
    rw [kF e] at hph
    exact .inr ⟨e,e2,⟨k',hk',h1⟩,hph⟩
 have hbn:∀ i,born h i=true → born (qW (qW h id .gone) nw k) i=true:=fun i hi=>km hle2 hku (km hle (by simp) hi)
 have hst:∀ b,N b → N b ∧ w'.heap[b]?=w.heap[b]?:=fun b hN=>⟨hN,hw.old b (fun e=>H.apart id hl (e ▸ hN))⟩
 have hrho:∀ i,born h i=true → upd ρ nw p i = ρ i:=fun i hi=>kF (fun e=>by subst e;rw [hun] at hi;cases hi)
 refine ⟨⟨fun b hN=>by rw [hw.size];exact H.lt b hN,fun i j hi hj he=>?_,fun i hi=>?_,fun i k' hk'=>?_,fun i cs hc=>?_,H.glob.mono hst⟩,?_⟩
 ·rcases hcase i hi with rfl | ⟨hi1,hi2,hi3⟩
  ·rcases hcase j hj with rfl | ⟨hj1,hj2,hj3⟩
   ·rfl
   ·rw [zV,kF hj1,hp] at he
    exact absurd (H.inj id j hl hj3 he).symm hj2
  ·rcases hcase j hj with rfl | ⟨hj1,hj2,hj3⟩
   ·rw [zV,kF hi1,hp] at he
    exact absurd (H.inj i id hi3 hl he) hi2
   ·rw [kF hi1,kF hj1] at he
    exact H.inj i j hi3 hj3 he
 ·rcases hcase i hi with rfl | ⟨hi1,hi2,hi3⟩
  ·rw [zV,hp];exact H.apart id hl
  ·rw [kF hi1];exact H.apart i hi3
 ·by_cases e:i=nw
  ·subst e
   rw [qe hle2] at hk';cases hk'
   rw [zV];exact hb
  ·by_cases e2:i=id
   ·subst e2
    rw [qR hle2 e,qe hle] at hk';cases hk';trivial
   ·rw [hget i e e2] at hk'
    rw [kF e]
    exact (H.own i k' hk').mono (q:=born h) (H.scope i _ hk') (fun h1 h2 h3=>hw.old _ (fun e'=>e2 (H.inj i id ⟨⟨k',hk',h1,h2⟩,h3⟩ hl e'))) hst hrho
 ·by_cases e:i=nw
  ·subst e
   rw [qe hle2] at hc;cases hc
   exact AV.zQ.all hbn _ hs
  ·by_cases e2:i=id
   ·subst e2
    rw [qR hle2 e,qe hle] at hc;cases hc;rfl
   ·rw [hget i e e2] at hc
    exact AV.zQ.all hbn _ (H.scope i _ hc)
 ·exact ⟨hw.os,hw.tape,hw.output,Nat.le_of_eq hw.size.symm,fun i hi=>⟨hbn i hi,hrho i hi⟩,hst,fun b hb=>.inl hb,fun b _ hn=>hw.old b (fun e=>hn id hl e.symm),fun i hi=>by
   rcases hcase i hi with rfl | ⟨hi1,hi2,hi3⟩
   ·rw [zV,hp];exact .inr ⟨id,hl,rfl⟩
   ·rw [kF hi1];exact .inr ⟨i,hi3,rfl⟩⟩
theorem jV (b:Nat):∀ (vs:List Value) (o:Nat) (w:World),xe b w (w.setCells b o vs)
 | [],_,w=>xe.refl b w
 | v :: vs,o,w=>by
  have h:=jV b vs (o + 1) (w.setCell ⟨b,o,none⟩ v)
  have h0:=(xe.refl b w).setCell ⟨b,o,none⟩ rfl v
  exact ⟨h.os.trans h0.os,h.tape.trans h0.tape,h.output.trans h0.output,h.size.trans h0.size,fun c hc=>(h.old c hc).trans (h0.old c hc)⟩
theorem wN (b:Nat) (t:TypeId) (fr:Nat × Nat):∀ (vs:List Value) (o:Nat) (cur:Array Value) (w:World),w.heap[b]?=some (.cells cur t fr) → (w.setCells b o vs).heap[b]?=some (.cells (kK cur.toList o vs).toArray t fr)
 | [],o,cur,w,h=>by simpa [World.setCells,kK] using h
 | v :: vs,o,cur,w,h=>by
  have hg':(w.setCell ⟨b,o,none⟩ v).heap[b]?=some (.cells (cur.setIfInBounds o v) t fr):=by
   simp [World.setCell,Array.getElem?_modify,h]
  rw [World.setCells,wN b t fr vs (o + 1) _ _ hg',kK,Array.toList_setIfInBounds]
def qa (w:World) (N:Nat → Prop) (sz:Nat) (ys:List (List CV)) (news:List Value):Prop:=
 news.length=ys.length * sz ∧ (∀ u,u ∈ news → u.oneCell'=true) ∧ ∀ (j i:Nat) (hj:j < ys.length) (hi:i < (ys[j]).length),∃ x,news[j * sz + i]?=some x ∧ kX w N (ys[j])[i] x
theorem xB {n sz k:Nat} (hp:0 < sz) (hk:k < n * sz):k / sz < n ∧ k % sz < sz ∧ k / sz * sz + k % sz=k:=by
 refine ⟨(Nat.div_lt_iff_lt_mul hp).2 hk,Nat.mod_lt _ hp,?_⟩
 rw [Nat.mul_comm];exact Nat.div_add_mod k sz
theorem vV {n sz j i:Nat} (hj:j < n) (hi:i < sz):j * sz + i < n * sz:=by
 have:(j + 1) * sz ≤ n * sz:=Nat.mul_le_mul_right sz hj
 rw [Nat.add_mul,Nat.one_mul] at this;omega
theorem Ju {sz j i:Nat} (hi:i < sz):(j * sz + i) / sz=j ∧ (j * sz + i) % sz=i:=by
 have hp:0 < sz:=by omega
 constructor
 ·rw [Nat.mul_comm,Nat.mul_add_div hp,Nat.div_eq_of_lt hi,Nat.add_zero]
 ·rw [Nat.mul_comm,Nat.mul_add_mod];exact Nat.mod_eq_of_lt hi
theorem Vm {w:World} {N:Nat → Prop} {sz:Nat} (hp:0 < sz) {ys:List (List CV)} (hl:∀ y,y ∈ ys → y.length=sz) (V:Nat → Nat → Value) (hV:∀ (j i:Nat) (hj:j < ys.length) (hi:i < (ys[j]).length),kX w N (ys[j])[i] (V j i)) :
  qa w N sz ys ((List.range (ys.length * sz)).map fun k=>V (k / sz) (k % sz)):=by
 refine ⟨by simp,fun u hu=>?_,fun j i hj hi=>?_⟩
 ·obtain ⟨k,hk,rfl⟩:=List.mem_map.1 hu
  have:=xB hp (List.mem_range.1 hk)
  exact (hV (k / sz) (k % sz) this.1 (by rw [hl _ (List.getElem_mem _)];exact this.2.1)).one
 ·have hi':i < sz:=by rw [hl _ (List.getElem_mem _)] at hi;exact hi
  have hb:=Ju (j:=j) hi'
  refine ⟨V j i,?_,hV j i hj hi⟩
  rw [List.getElem?_map,List.getElem?_range (vV hj hi')]
  simp [hb.1,hb.2]
def k7 (w:World) (N:Nat → Prop) (ρ:Nat → Pl) (sz:Nat) (ys:List (List AV)) (news:List Value):Prop:=
 news.length=ys.length * sz ∧ ∀ (j i:Nat) (hj:j < ys.length) (hi:i < (ys[j]).length),∃ x,news[j * sz + i]?=some x ∧ zo w N ρ (ys[j])[i] x
theorem qa.toV {w:World} {N:Nat → Prop} {ρ:Nat → Pl} {sz:Nat} {ys:List (List CV)} {news:List Value} (h:qa w N sz ys news):k7 w N ρ sz (ys.map (·.map .c)) news:=by
 refine ⟨by simpa using h.1,fun j i hj hi=>?_⟩
 have hj':j < ys.length:=by simpa using hj
 obtain ⟨x,hx,hr⟩:=h.2.2 j i hj' (by simpa using hi)
 exact ⟨x,hx,by simpa using zo.c hr⟩
theorem Xp {w:World} {N:Nat → Prop} {ρ:Nat → Pl} {sz:Nat} (hp:0 < sz) {ys:List (List AV)} (hl:∀ y,y ∈ ys → y.length=sz) (V:Nat → Nat → Value) (hV:∀ (j i:Nat) (hj:j < ys.length) (hi:i < (ys[j]).length),zo w N ρ (ys[j])[i] (V j i)) :
  k7 w N ρ sz ys ((List.range (ys.length * sz)).map fun k=>V (k / sz) (k % sz)):=by
 refine ⟨by simp,fun j i hj hi=>?_⟩
 ·have hi':i < sz:=by rw [hl _ (List.getElem_mem _)] at hi;exact hi
  have hb:=Ju (j:=j) hi'
  refine ⟨V j i,?_,hV j i hj hi⟩
  rw [List.getElem?_map,List.getElem?_range (vV hj hi')]
  simp [hb.1,hb.2]
theorem k7.one {w:World} {N:Nat → Prop} {ρ:Nat → Pl} {sz:Nat} (hp:0 < sz) {ys:List (List AV)} {news:List Value} (h:k7 w N ρ sz ys news) (hl:∀ y,y ∈ ys → y.length=sz) (ho:∀ y,y ∈ ys → ∀ v,v ∈ y → kH v=true):∀ u,u ∈ news → u.oneCell'=true:=fun u hu=>by
 obtain ⟨k,hk,rfl⟩:=List.getElem_of_mem hu
 have hk':k < ys.length * sz:=by rw [← h.1];exact hk
 have hs:=xB hp hk'
 have hy:=hl _ (List.getElem_mem hs.1)
 obtain ⟨x,hx,hr⟩:=h.2 (k / sz) (k % sz) hs.1 (by omega)
 rw [hs.2.2,List.getElem?_eq_getElem hk] at hx
 cases hx
 exact hr.one (ho _ (List.getElem_mem hs.1) _ (List.getElem_mem _))
section
variable {P:Program} {E:Env} (T:zE P E) {w:World} {N:Nat → Prop} {ρ:Nat → Pl} {h:List zf} (H:zw N h ρ w)
include H
theorem xU {x:AV} {X:Value} {ys:List (List CV)} {sz:Nat} (hp:0 < sz) (hx:zo w N ρ x X) (hr:rowOf h x=some ys) (hl:∀ y,y ∈ ys → y.length=sz) (hsl:∀ id off len e sz' xs,x = .sl id off len → h[id]?=some (.rows sz' e xs) → sz'=sz) :
  ∃ A c news,X = .slice A ys.length c ∧ ys.length ≤ c ∧ c ≤ 9223372036854775807 ∧ qa w N sz ys news ∧ (A=none → ys=[]) ∧ (∀ a,A=some a → ∀ (j:Nat) (u:Value),news[j]?=some u → w.cell? (a.add j)=some u):=by
 unfold rowOf at hr
 split at hr
 ·cases hr
  cases hx.Qy
  exact ⟨none,0,[],rfl,Nat.le_refl _,by omega,⟨by simp,by simp,fun j i hj=>absurd hj (by simp)⟩,fun _=>rfl,fun a ha=>by cases ha⟩
 ·rename_i sz0 q xs
  injection hr with hr
  subst hr
  cases hx with | c hx =>
  cases hx with
  | lst _ _ _ A c V hxx hcc hm hszs hcell hrep =>
   have hsz0:∀ y,y ∈ xs → sz0=sz:=fun y hy=>by rw [← hszs y hy,hl y hy]
   have hrow:=Vm (w:=w) (N:=N) hp hl V hrep
   refine ⟨A,c,_,rfl,hcc,hm,hrow,fun hA=>?_,fun a ha j u hu=>?_⟩
   ·cases xs with
    | nil=>rfl
    | cons y ys =>
     have:=hsz0 y (by simp)
     obtain ⟨b,o,he,_⟩:=hcell 0 0 (by simp) (by omega)
     rw [hA] at he;cases he
   ·obtain ⟨hj,he⟩:=List.getElem?_eq_some_iff.1 hu
    have hj':j < xs.length * sz:=by rw [hrow.1] at hj;exact hj
    have hsp:=xB hp hj'
    have hszE:sz0=sz:=hsz0 _ (List.getElem_mem hsp.1)
    obtain ⟨b,o,hA,hN,hv⟩:=hcell (j / sz) (j % sz) hsp.1 (by omega)
    rw [ha] at hA;cases hA
    rw [hszE,hsp.2.2] at hv
    rw [add_plain,hv]
    simp at he;rw [he]
 ·rename_i id off len
  split at hr
  ·rename_i sz' e xs hb
   split at hr
   ·rename_i hle
    cases hr
    have hszE:=hsl id off len e sz' xs rfl hb
    subst hszE
    obtain ⟨hsz,hszs,hcase⟩:=H.own id _ hb
    have hlen:((xs.drop off).take len).length=len:=by simp;omega
    cases hx with
    | sn _ hph =>
     rcases hcase with ⟨_,h0⟩ | ⟨h0,_⟩
     ·subst h0
      exact ⟨none,0,[],by simp,by simp,by omega,⟨by simp,by simp,fun j i hj=>absurd hj (by simp)⟩,fun _=>by simp,fun a ha=>by cases ha⟩
     ·rw [hph] at h0;cases h0
    | sl _ _ _ cap o hph ho h1 h2 hm =>
     rcases hcase with ⟨h0,_⟩ | ⟨_,cur,ty,fr,hh,hf,hsize,hrange,hcell⟩
     ·rw [hph] at h0;cases h0
     ·have hget:∀ j (hj:j < ((xs.drop off).take len).length),off + j < xs.length:=fun j hj=>by rw [hlen] at hj;omega
      let V:Nat → Nat → Value:=fun j i=>(cur[(ρ id).base + ((off + j) * sz' + i)]?).getD undef
      have hrow:=Vm (w:=w) (N:=N) (ys:=(xs.drop off).take len) hp hl V (fun j i hj hi=>by
       have hjx:=hget j hj
       have e1:((xs.drop off).take len)[j]=xs[off + j]:=by simp
       obtain ⟨x,hx,hr⟩:=hcell (off + j) i hjx (by rw [← e1];exact hi)
       simp only [V,hx,Option.getD_some]
       simpa [e1] using hr)
      refine ⟨some ⟨(ρ id).b,o,none⟩,cap,_,by rw [hlen],by rw [hlen];exact h1,hm,hrow,(fun hA=>by cases hA),fun a ha j u hu=>?_⟩
      cases ha
      obtain ⟨hj,he⟩:=List.getElem?_eq_some_iff.1 hu
      have hj':j < ((xs.drop off).take len).length * sz':=by rw [hrow.1] at hj;exact hj
      have hsp:=xB hp hj'
      have hjx:=hget _ hsp.1
      have hcap:cap ≠ 0:=by
       have h0:0 < ((xs.drop off).take len).length:=Nat.lt_of_le_of_lt (Nat.zero_le _) hsp.1
       rw [hlen] at h0;omega
      have e1:(xs[off + j / sz']).length=sz':=hszs _ (List.getElem_mem _)
      obtain ⟨x,hx,hr⟩:=hcell (off + j / sz') (j % sz') hjx (by omega)
      rw [add_plain,z8 hh,ho hcap,hsz]
      have e2:(ρ id).base + off * sz' + j=(ρ id).base + ((off + j / sz') * sz' + j % sz'):=by rw [Nat.add_mul];omega
      rw [e2,hx]
      simp [V,hx] at he
      rw [← he]
   ·cases hr
  ·cases hr
 ·cases hr
theorem WE {id off len:Nat} {X:Value} {xs:List (List AV)} {sz':Nat} {e:TypeId} (hp:0 < sz') (hb:h[id]?=some (.vec sz' e xs)) (hle:off + len ≤ xs.length) (hx:zo w N ρ (.sl id off len) X) (hl:∀ y,y ∈ (xs.drop off).take len → y.length=sz') :
  ∃ A c news,X = .slice A ((xs.drop off).take len).length c ∧ ((xs.drop off).take len).length ≤ c ∧ c ≤ 9223372036854775807 ∧ k7 w N ρ sz' ((xs.drop off).take len) news ∧ (A=none → (xs.drop off).take len=[]) ∧ (∀ a,A=some a → ∀ (j:Nat) (u:Value),news[j]?=some u → w.cell? (a.add j)=some u):=by
  obtain ⟨hsz,hszs,hcase⟩:=H.own id _ hb
  have hlen:((xs.drop off).take len).length=len:=by simp;omega
  cases hx with
  | sn _ hph =>
   rcases hcase with ⟨_,h0⟩ | ⟨h0,_⟩
   ·subst h0
    exact ⟨none,0,[],by simp,by simp,by omega,⟨by simp,fun j i hj=>absurd hj (by simp)⟩,fun _=>by simp,fun a ha=>by cases ha⟩
   ·rw [hph] at h0;cases h0
  | sl _ _ _ cap o hph ho h1 h2 hm =>
   rcases hcase with ⟨h0,_⟩ | ⟨_,cur,ty,fr,hh,hf,hsize,hrange,hcell⟩
   ·rw [hph] at h0;cases h0
   ·have hget:∀ j (hj:j < ((xs.drop off).take len).length),off + j < xs.length:=fun j hj=>by rw [hlen] at hj;omega
    let V:Nat → Nat → Value:=fun j i=>(cur[(ρ id).base + ((off + j) * sz' + i)]?).getD undef
    have hrow:=Xp (w:=w) (N:=N) (ρ:=ρ) (ys:=(xs.drop off).take len) hp hl V (fun j i hj hi=>by
     have hjx:=hget j hj
     have e1:((xs.drop off).take len)[j]=xs[off + j]:=by simp
     obtain ⟨x,hx,hr⟩:=hcell (off + j) i hjx (by rw [← e1];exact hi)
     simp only [V,hx,Option.getD_some]
     simpa [e1] using hr)
    refine ⟨some ⟨(ρ id).b,o,none⟩,cap,_,by rw [hlen],by rw [hlen];exact h1,hm,hrow,(fun hA=>by cases hA),fun a ha j u hu=>?_⟩
    cases ha
    obtain ⟨hj,he⟩:=List.getElem?_eq_some_iff.1 hu
    have hj':j < ((xs.drop off).take len).length * sz':=by rw [hrow.1] at hj;exact hj
    have hsp:=xB hp hj'
    have hjx:=hget _ hsp.1
    have hcap:cap ≠ 0:=by
     have h0:0 < ((xs.drop off).take len).length:=Nat.lt_of_le_of_lt (Nat.zero_le _) hsp.1
     rw [hlen] at h0;omega
    have e1:(xs[off + j / sz']).length=sz':=hszs _ (List.getElem_mem _)
    obtain ⟨x,hx,hr⟩:=hcell (off + j / sz') (j % sz') hjx (by omega)
    rw [add_plain,z8 hh,ho hcap,hsz]
    have e2:(ρ id).base + off * sz' + j=(ρ id).base + ((off + j / sz') * sz' + j % sz'):=by rw [Nat.add_mul];omega
    rw [e2,hx]
    simp [V,hx] at he
    rw [← he]
include T
theorem zfN {u:TypeId} {x:AV} {X:Value} {ys:List (List AV)} {sz:Nat} (hp:0 < sz) (hx:zo w N ρ x X) (hr:wT E u h x=some ys) (hl:∀ y,y ∈ ys → y.length=sz) (ho:∀ y,y ∈ ys → ∀ v,v ∈ y → kH v=true) :
  ∃ news,Src P sz u X ys.length news w ∧ k7 w N ρ sz ys news:=by
 unfold wT at hr
 split at hr
 ·rename_i e hu
  cases hr
  cases hx.Qy
  exact ⟨[],Src.ofNil w (T.und _ _ hu) 0,by simp,fun j i hj=>absurd hj (by simp)⟩
 ·rename_i e sz0 q xs hu
  cases hr
  have hl':∀ y,y ∈ xs → y.length=sz:=fun y hy=>by
   have:=hl (y.map .c) (List.mem_map.2 ⟨y,hy,rfl⟩);simpa using this
  have hlen:(xs.map (·.map AV.c)).length=xs.length:=by simp
  rw [hlen]
  obtain ⟨A,c,news,rfl,hlc,_,hrow,hA,hcell⟩:=xU H hp hx (ys:=xs) rfl hl' (fun id off len e sz' xs h1 h2=>by cases h1)
  refine ⟨news,?_,hrow.toV⟩
  cases A with
  | none =>
   have:=hA rfl
   subst this
   have hn:news=[]:=List.eq_nil_of_length_eq_zero (by rw [hrow.1];simp)
   subst hn
   exact Src.ofNil w (T.und _ _ hu) c
  | some a=>exact Src.ofSlice w (T.und _ _ hu) a _ c news hrow.1 (hcell a rfl) hrow.2.1
 ·rename_i e id off len hu
  split at hr
  ·rename_i sz' e' xs hb
   split at hr
   ·rename_i hle
    cases hr
    by_cases hne:(xs.drop off).take len=[]
    ·have hlen:((xs.drop off).take len).length=len:=by simp;omega
     rw [hne] at hlen ⊢
     simp only [List.length_nil] at hlen
     subst hlen
     refine ⟨[],?_,by simp,fun j i hj=>absurd hj (by simp)⟩
     cases hx with
     | sn _ _=>exact Src.ofNil w (T.und _ _ hu) 0
     | sl _ _ _ cap o=>exact Src.ofSlice w (T.und _ _ hu) _ 0 cap [] (by simp) (by simp) (by simp)
    ·have hszE:sz'=sz:=by
      obtain ⟨y,hy⟩:=List.exists_mem_of_ne_nil _ hne
      rw [← hl y hy];exact ((H.own id _ hb).2.1 y (List.mem_of_mem_drop (List.mem_of_mem_take hy))).symm
     subst hszE
     obtain ⟨A,c,news,rfl,hlc,_,hrow,hA,hcell⟩:=WE H hp hb hle hx hl
     cases A with
     | none=>exact absurd (hA rfl) hne
     | some a=>exact ⟨news,Src.ofSlice w (T.und _ _ hu) a _ c news hrow.1 (hcell a rfl) (hrow.one hp hl ho),hrow⟩
   ·cases hr
  ·cases hr
 ·cases hr
omit T
include T
theorem zii {u:TypeId} {x:AV} {X:Value} {ys:List (List CV)} {sz:Nat} (hp:0 < sz) (hx:zo w N ρ x X) (hr:wY E u h sz x=some ys) (hl:∀ y,y ∈ ys → y.length=sz) (hsl:∀ id off len e sz' xs,x = .sl id off len → h[id]?=some (.rows sz' e xs) → ys ≠ [] → sz'=sz) :
  ∃ news,Src P sz u X ys.length news w ∧ qa w N sz ys news:=by
 unfold wY at hr
 split at hr
 ·rename_i s hu
  split at hr
  ·rename_i h1
   subst h1
   cases hr;cases hx.vH
   have hlen:(qI s).length=s.size:=by simp [qI]
   refine ⟨byteCells s,?_,?_,?_,?_⟩
   ·rw [hlen];exact Src.ofString w (T.und _ _ hu) s
   ·rw [byteCells_length,hlen,Nat.mul_one]
   ·intro u hu;obtain ⟨_,_,rfl⟩:=List.mem_map.1 hu;rfl
   ·intro j i hj hi
    have hi0:i=0:=by rw [hl _ (List.getElem_mem _)] at hi;omega
    subst hi0
    have hj2:j < s.data.toList.length:=by simpa [qI] using hj
    refine ⟨.int .u8 (s.data.toList[j]).toNat,by rw [Nat.mul_one,Nat.add_zero,byteCells,List.getElem?_map,List.getElem?_eq_getElem hj2];rfl,?_⟩
    simp only [qI,List.getElem_map,List.getElem_cons_zero]
    exact .int _ _
  ·cases hr
 ·rename_i e hu
  by_cases hne:ys=[]
  ·subst hne
   refine ⟨[],?_,by simp,by simp,fun j i hj=>absurd hj (by simp)⟩
   have key:∃ A c,X = .slice A 0 c:=by
    unfold rowOf at hr
    split at hr
    ·cases hx.Qy;exact ⟨_,_,rfl⟩
    ·cases hr
     cases hx with | c hx =>
     cases hx with
     | lst _ _ _ A c=>exact ⟨A,c,rfl⟩
    ·rename_i id off len
     split at hr
     ·split at hr
      ·rename_i sz' e xs hb hle
       have:len=0:=by
        have:=congrArg List.length (Option.some.inj hr)
        simp at this;omega
       subst this
       cases hx with
       | sn _ _=>exact ⟨_,_,rfl⟩
       | sl _ _ _ cap o=>exact ⟨_,_,rfl⟩
      ·cases hr
     ·cases hr
    ·cases hr
   obtain ⟨A,c,rfl⟩:=key
   cases A with
   | none=>exact Src.ofNil w (T.und _ _ hu) c
   | some a=>exact Src.ofSlice w (T.und _ _ hu) a 0 c [] (by simp) (by simp) (by simp)
  ·obtain ⟨A,c,news,rfl,hlc,_,hrow,hA,hcell⟩:=xU H hp hx hr hl (fun id off len e sz' xs h1 h2=>hsl id off len e sz' xs h1 h2 hne)
   cases A with
   | none=>exact absurd (hA rfl) hne
   | some a=>exact ⟨news,Src.ofSlice w (T.und _ _ hu) a _ c news hrow.1 (hcell a rfl) hrow.2.1,hrow⟩
 ·cases hr
end
end Go.Ev
namespace Go.Ev
open Go.RowKit
variable [qo]
theorem zgs {ys:List (List CV)} {sz:Nat} (h:ys.all (fun y=>y.length == sz)=true):∀ y,y ∈ ys → y.length=sz:=fun y hy=>by
 have:=List.all_eq_true.1 h y hy;simpa using this
theorem ja (w:World) (o:Obj):(w.drew.alloc o).heap[w.heap.size]?=some o:=heap_alloc_new w.drew o
theorem Made.wu (w:World) (o:Obj):Made w (w.drew.alloc o):=⟨rfl,rfl,rfl,by simp,fun b hb=>Below.heap_alloc w.drew o b hb⟩
section
variable {P:Program} {E:Env} (T:zE P E) {w:World} {N:Nat → Prop} {ρ:Nat → Pl}
theorem K5 {h:List zf} (H:zw N h ρ w) {nw:Nat} {e:TypeId} {sz:Nat} {xs ys:List (List CV)} {olds news:List Value} {cap:Nat} {z:Array Value} (hf:kA h nw) (hzs:z.size=sz) (hxl:∀ x,x ∈ xs → x.length=sz) (hyl:∀ y,y ∈ ys → y.length=sz)
  (ho:qa w N sz xs olds) (hn:qa w N sz ys news) (hcap:xs.length + ys.length ≤ cap) (hcm:cap ≤ 9223372036854775807) :
  zn N h ρ w (.sl nw 0 (xs.length + ys.length)) (qW h nw (.rows sz e (xs ++ ys))) (.slice (some ⟨w.heap.size,0,none⟩) (xs.length + ys.length) cap) (w.drew.alloc (.cells ((olds ++ news).toArray ++ Builtin.zeroCells z (cap - (xs.length + ys.length))) e)):=by
 have hsize:((olds ++ news).toArray ++ Builtin.zeroCells z (cap - (xs.length + ys.length))).size=cap * sz:=by
  simp only [Array.size_append,size_zeroCells,hzs,List.size_toArray,List.length_append,ho.1,hn.1]
  rw [← Nat.add_mul,← Nat.add_mul,Nat.add_sub_cancel' hcap]
 have hst:∀ b,N b → N b ∧ (w.drew.alloc (.cells ((olds ++ news).toArray ++ Builtin.zeroCells z (cap - (xs.length + ys.length))) e)).heap[b]?=w.heap[b]?:=fun b hN=>⟨hN,(Made.wu w _).old b (H.lt b hN)⟩
 refine zn.row H hf (Made.wu w _) (ja w _) (vz _) (by simp) hcap hcm (by rw [hsize];exact Nat.le_refl _) (fun x hx=>(List.mem_append.1 hx).elim (hxl x) (hyl x)) (fun j i hj hi=>?_)
 simp only [List.length_append] at hj
 by_cases hjx:j < xs.length
 ·have e1:(xs ++ ys)[j]'(by simp;omega)=xs[j]:=List.getElem_append_left hjx
  have hi':i < (xs[j]).length:=by rw [← e1];exact hi
  obtain ⟨x,hx,hr⟩:=ho.2.2 j i hjx hi'
  have hlt:j * sz + i < olds.length:=(List.getElem?_eq_some_iff.1 hx).1
  refine ⟨x,?_,?_⟩
  ·rw [Array.getElem?_append_left (by simp;omega)]
   simp only [List.getElem?_toArray]
   rw [List.getElem?_append_left hlt];exact hx
  ·simp only [e1];exact hr.mono hst
 ·have e1:(xs ++ ys)[j]'(by simp;omega)=ys[j - xs.length]'(by omega):=List.getElem_append_right (by omega)
  have hi':i < (ys[j - xs.length]'(by omega)).length:=by rw [← e1];exact hi
  obtain ⟨x,hx,hr⟩:=hn.2.2 (j - xs.length) i (by omega) hi'
  have hlt:(j - xs.length) * sz + i < news.length:=(List.getElem?_eq_some_iff.1 hx).1
  have hj3:xs.length * sz ≤ j * sz:=Nat.mul_le_mul_right sz (by omega)
  have hsub:(j - xs.length) * sz=j * sz - xs.length * sz:=Nat.sub_mul _ _ _
  have hidx:j * sz + i - olds.length=(j - xs.length) * sz + i:=by rw [ho.1];omega
  have hge:olds.length ≤ j * sz + i:=by rw [ho.1];omega
  refine ⟨x,?_,?_⟩
  ·rw [Array.getElem?_append_left (by simp;omega)]
   simp only [List.getElem?_toArray]
   rw [List.getElem?_append_right hge,hidx];exact hx
  ·simp only [e1];exact hr.mono hst
theorem Jl {h:List zf} (H:zw N h ρ w) {nw:Nat} {e:TypeId} {sz:Nat} {xs ys:List (List AV)} {olds news:List Value} {cap:Nat} {z:Array Value} (hf:kA h nw) (hzs:z.size=sz) (hxl:∀ x,x ∈ xs → x.length=sz) (hyl:∀ y,y ∈ ys → y.length=sz)
  (hxs:AV.sc.scAll (born h) xs.flatten=true) (hys:AV.sc.scAll (born h) ys.flatten=true) (ho:k7 w N ρ sz xs olds) (hn:k7 w N ρ sz ys news) (hcap:xs.length + ys.length ≤ cap) (hcm:cap ≤ 9223372036854775807) :
  zn N h ρ w (.sl nw 0 (xs.length + ys.length)) (qW h nw (.vec sz e (xs ++ ys))) (.slice (some ⟨w.heap.size,0,none⟩) (xs.length + ys.length) cap) (w.drew.alloc (.cells ((olds ++ news).toArray ++ Builtin.zeroCells z (cap - (xs.length + ys.length))) e)):=by
 have hsize:((olds ++ news).toArray ++ Builtin.zeroCells z (cap - (xs.length + ys.length))).size=cap * sz:=by
  simp only [Array.size_append,size_zeroCells,hzs,List.size_toArray,List.length_append,ho.1,hn.1]
  rw [← Nat.add_mul,← Nat.add_mul,Nat.add_sub_cancel' hcap]
 have hst:∀ b,N b → N b ∧ (w.drew.alloc (.cells ((olds ++ news).toArray ++ Builtin.zeroCells z (cap - (xs.length + ys.length))) e)).heap[b]?=w.heap[b]?:=fun b hN=>⟨hN,(Made.wu w _).old b (H.lt b hN)⟩
 refine zn.vec H hf (Made.wu w _) (ja w _) (vz _) (by simp) hcap hcm (by rw [hsize];exact Nat.le_refl _) (fun x hx=>(List.mem_append.1 hx).elim (hxl x) (hyl x)) (by rw [List.flatten_append];exact ze.2 fun x hx=>(List.mem_append.1 hx).elim (ze.1 hxs x) (ze.1 hys x)) (fun j i hj hi=>?_)
 simp only [List.length_append] at hj
 by_cases hjx:j < xs.length
 ·have e1:(xs ++ ys)[j]'(by simp;omega)=xs[j]:=List.getElem_append_left hjx
  have hi':i < (xs[j]).length:=by rw [← e1];exact hi
  obtain ⟨x,hx,hr⟩:=ho.2 j i hjx hi'
  have hlt:j * sz + i < olds.length:=(List.getElem?_eq_some_iff.1 hx).1
  refine ⟨x,?_,?_⟩
  ·rw [Array.getElem?_append_left (by simp;omega)]
   simp only [List.getElem?_toArray]
   rw [List.getElem?_append_left hlt];exact hx
  ·simp only [e1];exact hr.mono (ze.1 hxs _ (List.mem_flatten.2 ⟨_,List.getElem_mem _,List.getElem_mem _⟩)) hst (fun _ _=>rfl)
 ·have e1:(xs ++ ys)[j]'(by simp;omega)=ys[j - xs.length]'(by omega):=List.getElem_append_right (by omega)
  have hi':i < (ys[j - xs.length]'(by omega)).length:=by rw [← e1];exact hi
  obtain ⟨x,hx,hr⟩:=hn.2 (j - xs.length) i (by omega) hi'
  have hlt:(j - xs.length) * sz + i < news.length:=(List.getElem?_eq_some_iff.1 hx).1
  have hj3:xs.length * sz ≤ j * sz:=Nat.mul_le_mul_right sz (by omega)
  have hsub:(j - xs.length) * sz=j * sz - xs.length * sz:=Nat.sub_mul _ _ _
  have hidx:j * sz + i - olds.length=(j - xs.length) * sz + i:=by rw [ho.1];omega
  have hge:olds.length ≤ j * sz + i:=by rw [ho.1];omega
  refine ⟨x,?_,?_⟩
  ·rw [Array.getElem?_append_left (by simp;omega)]
   simp only [List.getElem?_toArray]
   rw [List.getElem?_append_right hge,hidx];exact hx
  ·simp only [e1];exact hr.mono (ze.1 hys _ (List.mem_flatten.2 ⟨_,List.getElem_mem _,List.getElem_mem _⟩)) hst (fun _ _=>rfl)
theorem qa.nil (w:World) (N:Nat → Prop) (sz:Nat):qa w N sz [] []:=⟨by simp,by simp,fun j i hj=>absurd hj (by simp)⟩
theorem zn.zie {N:Nat → Prop} {h h1 h2:List zf} {ρ:Nat → Pl} {w:World} {v:AV} {x:Value} {w':World} (k:Kept N h ρ w N h1 ρ w) (o:zn N h1 ρ w v h2 x w'):zn N h ρ w v h2 x w':=by
 obtain ⟨N',ρ',H,r,K,s⟩:=o.out
 exact ⟨⟨N',ρ',H,r,k.trans K,s⟩⟩
include T
theorem zdQ {h:List zf} (H:zw N h ρ w) {u:TypeId} {x:AV} {ys:List (List AV)} (hy:wT E u h x=some ys):AV.sc.scAll (born h) ys.flatten=true:=by
 unfold wT at hy
 split at hy
 ·cases hy;rfl
 ·cases hy;exact KF (sz:=0) (e:=0)
 ·split at hy
  ·rename_i sz' e' xs hb
   split at hy
   ·cases hy
    refine ze.2 fun z hz=>?_
    obtain ⟨l,hl,hzl⟩:=List.mem_flatten.1 hz
    exact ze.1 (H.scope _ _ hb) z (List.mem_flatten.2 ⟨l,List.mem_of_mem_drop (List.mem_of_mem_take hl),hzl⟩)
   ·cases hy
  ·cases hy
 ·cases hy
theorem VE {h:List zf} (H:zw N h ρ w) {t e u ty:TypeId} {s x v:AV} {S X:Value} {nw:Nat} {U:List (Nat × zf)} (hu:E.und t=some (.slice e)) (hf:kA h nw) (hs:zo w N ρ s S) (hsc:s.sc (born h)=true) (hx:zo w N ρ x X) (hv:wG E e u s x h nw=some (v,U)) :
  ∃ y w',(Builtin.append_ #[t,u] ty #[S,X]).run P w = .ok y w' ∧ zn N h ρ w v (app h U) y w':=by
 unfold wG at hv
 ·split at hv
  ·rename_i sz by_ z hsz hby hz
   split at hv
   ·rename_i ys hys
    split at hv
    ·rename_i hc
     obtain ⟨hp,hbp,hzl,hall⟩:=hc
     have hyl:∀ y,y ∈ ys → y.length=sz:=fun y hy=>by
      have:=List.all_eq_true.1 hall y hy;simp only [Bool.and_eq_true] at this;simpa using this.1
     have hyo:∀ y,y ∈ ys → ∀ v,v ∈ y → kH v=true:=fun y hy v hv=>by
      have:=List.all_eq_true.1 hall y hy;simp only [Bool.and_eq_true] at this;exact List.all_eq_true.1 this.2 v hv
     have hysc:=zdQ T H hys
     obtain ⟨i0,hi0,hz0,hl0⟩:∃ i0:TypeInfo,P.info? e=some i0 ∧ (∃ v0,i0.zero=some v0 ∧ v0.cells.size=sz) ∧ i0.size=sz ∧ i0.bytes=by_:=by
      obtain ⟨i1,hi1,e1⟩:=T.size e sz hsz
      obtain ⟨i2,hi2,e2⟩:=T.bytes e by_ hby
      obtain ⟨i3,v3,hi3,e3,e4⟩:=T.zero e z hz
      rw [hi1] at hi2 hi3;cases hi2;cases hi3
      have:=(qy (w:=w) (N:=N) (ρ:=ρ) e4).1
      exact ⟨i1,hi1,⟨v3,e3,by omega⟩,e1,e2⟩
     obtain ⟨z0,hz0,hzs⟩:=hz0
     obtain ⟨hsize0,hbytes0⟩:=hl0
     have hut:=T.und _ _ hu
     obtain ⟨news,hsrc,hnew⟩:=zfN T H hp hx hys hyl hyo
     have hfits:∀ n,n * by_ ≤ 140737488355328 → n ≤ 140737488355328:=fun n hn=>Nat.le_trans (Nat.le_mul_of_pos_right _ hbp) hn
     split at hv
     ·-- nil
      split at hv
      ·rename_i hfit
       cases hv
       cases hs.Qy
       by_cases hne:ys=[]
       ·subst hne
        have hnn:news=[]:=List.eq_nil_of_length_eq_zero (by rw [hnew.1];simp)
        subst hnn
        refine ⟨_,_,run_append_nothing w t u ty e i0 hut hi0 none 0 0 (Nat.le_refl _) X (by rw [hsize0];exact hsrc),?_⟩
        exact zn.new (p:=⟨0,0,0,sz,true⟩) H hf (Made.refl w) (fun h=>by cases h) (by simp) rfl ⟨rfl,by simp,.inl ⟨rfl,rfl⟩⟩ (.sn nw (by simp)) (by simp [AV.sc])
       ·have hpos:0 < ys.length:=List.length_pos_iff.2 hne
        have hlen:=hfits _ hfit
        refine ⟨_,_,run_append_grow_src w t u ty e i0 z0 hut hi0 hz0 none 0 0 [] (by simp [Builtin.firstCells]) X ys.length news (by rw [hsize0];exact hsrc) (by omega) (by omega) (growslice_fits (by omega) (by rw [hbytes0];simpa using hfit)),?_⟩
        have:=Jl (e:=e) H hf hzs (xs:=[]) (by simp) hyl rfl hysc (⟨by simp,fun j i hj=>absurd hj (by simp)⟩:k7 w N ρ sz [] []) hnew (cap:=grownCap w (0 + ys.length) 0 e) (by have:=grownCap_ge w (0 + ys.length) 0 e;simpa using this) (by have:=grownCap_le_maxLen w (0 + ys.length) 0 e (by unfold maxLen;omega);unfold maxLen at this;exact this)
        simpa [app] using this
      ·cases hv
     ·-- an own row
      rename_i id off len
      split at hv
      ·rename_i sz' e' xs hb
       split at hv
       ·rename_i hc2
        obtain ⟨rfl,rfl,hol,hfit⟩:=hc2
        cases hv
        have hlen:=hfits _ hfit
        have hbn:born h id=true:=hsc
        have hidl:id < h.length:=(List.getElem?_eq_some_iff.1 hb).1
        obtain ⟨HD,KD⟩:=H.drop hidl hbn
        have hlenD:(qW h id .gone).length=h.length:=by unfold qW;rw [if_pos hidl];simp
        have hidn:id ≠ nw:=fun he=>by subst he;rw [hf.zy] at hbn;cases hbn
        have hfD:kA (qW h id .gone) nw:=by
         rcases hf with h1 | h1
         ·exact .inl (by rw [hlenD];exact h1)
         ·exact .inr (by rw [qR (Nat.le_of_lt hidl) hidn.symm];exact h1)
        obtain ⟨hpsz,hxl,hcase⟩:=H.own id _ hb
        have hdl:(xs.drop off).length=len:=by simp;omega
        have hdx:∀ y,y ∈ xs.drop off → y.length=sz':=fun y hy=>hxl y (List.mem_of_mem_drop hy)
        have hdt:(xs.drop off).take len=xs.drop off:=List.take_of_length_le (by omega)
        have hdsc:AV.sc.scAll (born h) (xs.drop off).flatten=true:=ze.2 fun z hz=>by
         obtain ⟨l,hl,hzl⟩:=List.mem_flatten.1 hz
         exact ze.1 (H.scope _ _ hb) z (List.mem_flatten.2 ⟨l,List.mem_of_mem_drop hl,hzl⟩)
        have hbg:∀ l:List AV,AV.sc.scAll (born h) l=true → AV.sc.scAll (born (qW h id .gone)) l=true:=fun l hl=>AV.zQ.all (fun i hi=>km (Nat.le_of_lt hidl) (by simp) hi) l hl
        obtain ⟨A,c,olds,hSe,hlc,hcm,hold,hA,hcell⟩:=WE H hp hb (by omega) hs (by rw [hdt];exact hdx)
        rw [hdt] at hSe hlc hold hA
        subst hSe
        rw [hdl] at hs hlc
        have hgrow:c < len + ys.length → ∃ y w',(Builtin.append_ #[t,u] ty #[.slice A (xs.drop off).length c,X]).run P w = .ok y w' ∧ zn N h ρ w (.sl nw 0 (len + ys.length)) (app h [(id,.gone),(nw,.vec sz' e' (xs.drop off ++ ys))]) y w':=fun hg=>by
         have hrd:(Builtin.firstCells i0.size (xs.drop off).length (.slice A (xs.drop off).length c)).run P w.drew = .ok olds.toArray w.drew:=by
          rw [hsize0]
          cases A with
          | none =>
           have h0:=hA rfl
           have:olds=[]:=List.eq_nil_of_length_eq_zero (by rw [hold.1,h0];simp)
           subst this
           simp [Builtin.firstCells]
          | some a=>exact run_firstCells_some w.drew sz' _ a _ _ olds hold.1 (by simpa using hcell a rfl)
         refine ⟨_,_,run_append_grow_src w t u ty e' i0 z0 hut hi0 hz0 A (xs.drop off).length c olds hrd X ys.length news (by rw [hsize0];exact hsrc) (by omega) (by omega) (growslice_fits (by omega) (by rw [hbytes0,hdl];exact hfit)),?_⟩
         have hg2:=Jl (e:=e') HD hfD hzs hdx hyl (hbg _ hdsc) (hbg _ hysc) hold hnew (cap:=grownCap w ((xs.drop off).length + ys.length) c e') (grownCap_ge w _ _ e') (by have:=grownCap_le_maxLen w ((xs.drop off).length + ys.length) c e' (by unfold maxLen;omega);unfold maxLen at this;exact this)
         have:=zn.zie KD hg2
         rw [hdl] at this ⊢
         exact this
        by_cases hroom:len + ys.length ≤ c
        ·cases hs with
         | sn _ hph =>
          have hys0:ys=[]:=List.eq_nil_of_length_eq_zero (by omega)
          subst hys0
          have hnn:news=[]:=List.eq_nil_of_length_eq_zero (by rw [hnew.1];simp)
          subst hnn
          have hd0:=List.eq_nil_of_length_eq_zero hdl
          refine ⟨_,_,run_append_nothing w t u ty e' i0 hut hi0 none _ 0 (by omega) X (by rw [hsize0];exact hsrc),?_⟩
          refine zn.zie KD ?_
          rw [hd0]
          exact zn.new (p:=⟨0,0,0,sz',true⟩) HD hfD (Made.refl w) (fun h=>by cases h) (by simp) rfl ⟨rfl,by simp,.inl ⟨rfl,rfl⟩⟩ (.sn nw (by simp)) (by simp [AV.sc])
         | sl _ _ _ _ o hph ho h1 h2 hm =>
          rcases hcase with ⟨h0,_⟩ | ⟨_,cur,bt,fr,hh,hsoft,hsize,hrange,hcellX⟩
          ·rw [hph] at h0;cases h0
          ·have hown:owns h ρ id:=⟨⟨_,hb,by simp,by simp⟩,hph⟩
           have hnl:news.length=ys.length * sz':=hnew.1
           have hspan:off * sz' + (len * sz' + ys.length * sz') ≤ (off + c) * sz':=by
            rw [← Nat.add_mul,← Nat.add_mul];exact Nat.mul_le_mul_right sz' (by omega)
           rw [hpsz] at h2 ho
           have hoE:news ≠ [] → o=(ρ id).base + off * sz':=fun hne=>ho (by
            intro hc0
            apply hne
            refine List.eq_nil_of_length_eq_zero ?_
            have:ys.length=0:=by omega
            rw [hnl,this,Nat.zero_mul])
           have hin:∀ j,j < news.length → o + (xs.drop off).length * i0.size + j < cur.size:=fun j hj=>by
            rw [hoE (by intro h0;rw [h0] at hj;simp at hj),hdl,hsize0];omega
           refine ⟨_,_,run_append_room_src w t u ty e' i0 hut hi0 (ρ id).b o (xs.drop off).length c X ys.length news (by rw [hsize0];exact hsrc) (by omega) (fun j hj=>by
             rw [z8 hh,Array.getElem?_eq_getElem (hin j hj)];rfl) (fun j hj=>by
             have:=hsoft _ (hin j hj)
             simp only [World.frozen?,hh];simpa using this),?_⟩
           have hwr:=jV (ρ id).b news (o + (xs.drop off).length * i0.size) w
           have hhp:=wN (ρ id).b bt fr news (o + (xs.drop off).length * i0.size) cur w hh
           have hst:∀ b,N b → N b ∧ (w.setCells (ρ id).b (o + (xs.drop off).length * i0.size) news).heap[b]?=w.heap[b]?:=fun b hN=>⟨hN,hwr.old b (fun e=>H.apart id hown (e ▸ hN))⟩
           let p:Pl:=⟨(ρ id).b,(ρ id).base + off * sz',(ρ id).size,sz',false⟩
           have hrho:∀ i,born h i=true → upd ρ nw p i = ρ i:=fun i hi=>kF fun e0=>by
            subst e0;rw [hf.zy] at hi;cases hi
           have hblk:ka (w.setCells (ρ id).b (o + (xs.drop off).length * i0.size) news) N (upd ρ nw p) p (.vec sz' e' (xs.drop off ++ ys)):=by
            refine ⟨rfl,fun y hy=>(List.mem_append.1 hy).elim (hdx y) (hyl y),.inr ⟨rfl,_,bt,fr,hhp,by simpa [zp] using hsoft,by simp [zp,hsize,p],?_,fun j i hj hi=>?_⟩⟩
            ·simp only [List.length_append,hdl,p,List.size_toArray,zp,Array.length_toList]
             rw [Nat.add_mul,Nat.add_assoc];omega
            ·simp only [List.length_append,hdl] at hj
             have hget:=fun n hn=>qm news cur.toList (o + (xs.drop off).length * i0.size) n hn
             by_cases hnn:news=[]
             ·subst hnn
              have hys0:ys.length=0:=by
               have h0:ys.length * sz'=0:=by rw [← hnl];rfl
               rcases Nat.mul_eq_zero.1 h0 with h | h <;> omega
              have e1:(xs.drop off ++ ys)[j]'(by simp;omega)=xs[off + j]'(by omega):=by
               rw [List.getElem_append_left (by simp;omega)];simp
              obtain ⟨y,hy,hry⟩:=hcellX (off + j) i (by omega) (by rw [← e1];exact hi)
              refine ⟨y,?_,by simp only [e1];exact hry.mono (ze.1 (H.scope _ _ hb) _ (List.mem_flatten.2 ⟨_,List.getElem_mem _,List.getElem_mem _⟩)) hst hrho⟩
              simp only [kK,p]
              rw [show (ρ id).base + off * sz' + (j * sz' + i)=(ρ id).base + ((off + j) * sz' + i) by rw [Nat.add_mul];omega]
              simpa using hy
             ·have hoo:=hoE hnn
              have hle2:o + (xs.drop off).length * i0.size + news.length ≤ cur.toList.length:=by
               rw [hoo,hdl,hsize0,hnl];simp only [Array.length_toList];omega
              have hg:=hget (p.base + (j * sz' + i)) hle2
              have hE:o + (xs.drop off).length * i0.size=(ρ id).base + off * sz' + len * sz':=by rw [hoo,hdl,hsize0]
              simp only [List.getElem?_toArray]
              rw [hg]
              by_cases hjx:j < len
              ·have e1:(xs.drop off ++ ys)[j]'(by simp;omega)=xs[off + j]'(by omega):=by
                rw [List.getElem_append_left (by simp;omega)];simp
               have hi2:i < (xs[off + j]'(by omega)).length:=by rw [← e1];exact hi
               have hi3:i < sz':=by rw [hxl _ (List.getElem_mem _)] at hi2;exact hi2
               have hlt:=vV hjx hi3
               obtain ⟨y,hy,hry⟩:=hcellX (off + j) i (by omega) hi2
               rw [if_neg (by simp only [p];omega)]
               refine ⟨y,?_,by simp only [e1];exact hry.mono (ze.1 (H.scope _ _ hb) _ (List.mem_flatten.2 ⟨_,List.getElem_mem _,List.getElem_mem _⟩)) hst hrho⟩
               simp only [p]
               rw [show (ρ id).base + off * sz' + (j * sz' + i)=(ρ id).base + ((off + j) * sz' + i) by rw [Nat.add_mul];omega]
               simpa using hy
              ·have e1:(xs.drop off ++ ys)[j]'(by simp;omega)=ys[j - len]'(by omega):=by
                rw [List.getElem_append_right (by simp;omega)];simp [hdl]
               have hi2:i < (ys[j - len]'(by omega)).length:=by rw [← e1];exact hi
               have hi3:i < sz':=by rw [hyl _ (List.getElem_mem _)] at hi2;exact hi2
               have hlt:=vV (n:=ys.length) (show j - len < ys.length by omega) hi3
               have hsub:(j - len) * sz'=j * sz' - len * sz':=Nat.sub_mul _ _ _
               have hjm:len * sz' ≤ j * sz':=Nat.mul_le_mul_right sz' (by omega)
               obtain ⟨y,hy,hry⟩:=hnew.2 (j - len) i (by omega) hi2
               rw [if_pos (by simp only [p];omega)]
               refine ⟨y,?_,by simp only [e1];exact hry.mono (ze.1 hysc _ (List.mem_flatten.2 ⟨_,List.getElem_mem _,List.getElem_mem _⟩)) hst hrho⟩
               rw [show p.base + (j * sz' + i) - (o + (xs.drop off).length * i0.size)=(j - len) * sz' + i by simp only [p];omega]
               exact hy
           obtain ⟨HM,KM⟩:=H.move hown hf hwr (p:=p) rfl (by simp) (by show AV.sc.scAll (born h) (xs.drop off ++ ys).flatten=true;rw [List.flatten_append];exact ze.2 fun x hx=>(List.mem_append.1 hx).elim (ze.1 hdsc x) (ze.1 hysc x)) hblk
           refine ⟨⟨N,upd ρ nw p,HM,?_,KM,?_⟩⟩
           ·have:=zo.sl (w:=w.setCells (ρ id).b (o + (xs.drop off).length * i0.size) news) (N:=N) (ρ:=upd ρ nw p) nw 0 (len + ys.length) c o (by simp [p]) (by simp only [zV,p,Nat.zero_mul,Nat.add_zero];exact ho) hroom (by
             simp only [zV,p,Nat.zero_add];rw [Nat.add_mul] at h2;omega) hm
            simp only [zV,p] at this
            rw [show (xs.drop off).length + ys.length=len + ys.length by rw [hdl]];exact this
           ·show born (qW (qW h id .gone) nw _) nw=true
            unfold born;rw [qe hfD.le]
        ·exact hgrow (by omega)
       ·cases hv
      ·cases hv
     ·cases hv
    ·cases hv
   ·cases hv
  ·cases hv
theorem JP {h:List zf} (H:zw N h ρ w) {t u ty:TypeId} {s x v:AV} {S X:Value} {nw:Nat} {U:List (Nat × zf)} (hf:kA h nw) (hs:zo w N ρ s S) (hsc:s.sc (born h)=true) (hx:zo w N ρ x X) (hv:yH E [t,u] [s,x] h nw=some (v,U)) :
  ∃ y w',(Builtin.append_ #[t,u] ty #[S,X]).run P w = .ok y w' ∧ zn N h ρ w v (app h U) y w':=by
 unfold yH at hv
 simp only at hv
 split at hv
 ·rename_i e hu
  split at hv
  ·exact VE T H hu hf hs hsc hx hv
  split at hv
  ·rename_i sz by_ z hsz hby hz
   split at hv
   ·rename_i ys hys
    split at hv
    ·rename_i hc
     obtain ⟨hp,hbp,hzl,hall⟩:=hc
     have hyl:=zgs hall
     obtain ⟨i0,hi0,hz0,hl0⟩:∃ i0:TypeInfo,P.info? e=some i0 ∧ (∃ v0,i0.zero=some v0 ∧ v0.cells.size=sz) ∧ i0.size=sz ∧ i0.bytes=by_:=by
      obtain ⟨i1,hi1,e1⟩:=T.size e sz hsz
      obtain ⟨i2,hi2,e2⟩:=T.bytes e by_ hby
      obtain ⟨i3,v3,hi3,e3,e4⟩:=T.zero e z hz
      rw [hi1] at hi2 hi3;cases hi2;cases hi3
      have:=(qy (w:=w) (N:=N) (ρ:=ρ) e4).1
      exact ⟨i1,hi1,⟨v3,e3,by omega⟩,e1,e2⟩
     obtain ⟨z0,hz0,hzs⟩:=hz0
     obtain ⟨hsize0,hbytes0⟩:=hl0
     have hut:=T.und _ _ hu
     obtain ⟨news,hsrc,hnew⟩:=zii T H hp hx hys hyl (fun id off len e' sz' xs hxe hb hne=>by
      subst hxe
      have h1:=(H.own id _ hb).2.1
      unfold wY at hys
      split at hys
      ·rename_i hh;cases hh
      ·rename_i hq
       unfold rowOf at hys
       simp only [hb] at hys
       split at hys
       ·cases hys
        obtain ⟨y,hy⟩:=List.exists_mem_of_ne_nil _ hne
        rw [← hyl y hy];exact (h1 y (List.mem_of_mem_drop (List.mem_of_mem_take hy))).symm
       ·cases hys
      ·cases hys)
     have hfits:∀ n,n * by_ ≤ 140737488355328 → n ≤ 140737488355328:=fun n hn=>Nat.le_trans (Nat.le_mul_of_pos_right _ hbp) hn
     split at hv
     ·-- nil
      split at hv
      ·rename_i hfit
       cases hv
       cases hs.Qy
       by_cases hne:ys=[]
       ·subst hne
        have hnn:news=[]:=List.eq_nil_of_length_eq_zero (by rw [hnew.1];simp)
        subst hnn
        refine ⟨_,_,run_append_nothing w t u ty e i0 hut hi0 none 0 0 (Nat.le_refl _) X (by rw [hsize0];exact hsrc),?_⟩
        exact zn.new (p:=⟨0,0,0,sz,true⟩) H hf (Made.refl w) (fun h=>by cases h) (by simp) rfl ⟨rfl,by simp,.inl ⟨rfl,rfl⟩⟩ (.sn nw (by simp)) (by simp [AV.sc])
       ·have hpos:0 < ys.length:=List.length_pos_iff.2 hne
        have hlen:=hfits _ hfit
        refine ⟨_,_,run_append_grow_src w t u ty e i0 z0 hut hi0 hz0 none 0 0 [] (by simp [Builtin.firstCells]) X ys.length news (by rw [hsize0];exact hsrc) (by omega) (by omega) (growslice_fits (by omega) (by rw [hbytes0];simpa using hfit)),?_⟩
        have:=K5 (e:=e) H hf hzs (xs:=[]) (by simp) hyl (qa.nil w N sz) hnew (cap:=grownCap w (0 + ys.length) 0 e) (by have:=grownCap_ge w (0 + ys.length) 0 e;simpa using this) (by have:=grownCap_le_maxLen w (0 + ys.length) 0 e (by unfold maxLen;omega);unfold maxLen at this;exact this)
        simpa [app] using this
      ·cases hv
     ·-- a slice that is full
      rename_i sz' xs
      split at hv
      ·rename_i hc2
       obtain ⟨rfl,hfit,hne⟩:=hc2
       cases hv
       have hpos:0 < ys.length:=List.length_pos_iff.2 (by intro h0;subst h0;cases hne)
       have hlen:=hfits _ hfit
       have hxl:∀ y,y ∈ xs → y.length=sz':=by
        cases hs with | c hs =>
        cases hs with
        | lst _ _ _ A c V hxx hcc hm hszs hcell hrep=>exact hszs
       have hcx:∃ A,S = .slice A xs.length xs.length:=by
        cases hs with | c hs =>
        cases hs with
        | lst _ _ _ A c V hxx hcc hm hszs hcell hrep=>rw [hxx rfl];exact ⟨A,rfl⟩
       obtain ⟨A0,hS0⟩:=hcx
       obtain ⟨A,c,olds,hSe,hlc,hcm,hold,hA,hcell⟩:=xU H hp hs (ys:=xs) rfl hxl (fun id off len e' sz' xs h=>by cases h)
       rw [hS0] at hSe;cases hSe
       subst hS0
       have hrd:(Builtin.firstCells i0.size xs.length (.slice A0 xs.length xs.length)).run P w.drew = .ok olds.toArray w.drew:=by
        rw [hsize0]
        cases A0 with
        | none =>
         have:=hA rfl
         subst this
         have:olds=[]:=List.eq_nil_of_length_eq_zero (by rw [hold.1];simp)
         subst this
         simp [Builtin.firstCells]
        | some a=>exact run_firstCells_some w.drew sz' xs.length a _ _ olds hold.1 (by simpa using hcell a rfl)
       refine ⟨_,_,run_append_grow_src w t u ty e i0 z0 hut hi0 hz0 A0 xs.length xs.length olds hrd X ys.length news (by rw [hsize0];exact hsrc) (by omega) (by omega) (growslice_fits (by omega) (by rw [hbytes0];exact hfit)),?_⟩
       exact K5 (e:=e) H hf hzs hxl hyl hold hnew (cap:=grownCap w (xs.length + ys.length) xs.length e) (grownCap_ge w _ _ e) (by have:=grownCap_le_maxLen w (xs.length + ys.length) xs.length e (by unfold maxLen;omega);unfold maxLen at this;exact this)
      ·split at hv
       ·rename_i hc3
        obtain ⟨rfl,hem⟩:=hc3
        cases hv
        have hys0:ys=[]:=by simpa using hem
        subst hys0
        have hnn:news=[]:=List.eq_nil_of_length_eq_zero (by rw [hnew.1];simp)
        subst hnn
        have hcx:∃ A,S = .slice A xs.length xs.length:=by
         cases hs with | c hs =>
         cases hs with
         | lst _ _ _ A c V hxx hcc hm hszs hcell hrep=>rw [hxx rfl];exact ⟨A,rfl⟩
        obtain ⟨A0,hS0⟩:=hcx
        subst hS0
        exact ⟨_,_,run_append_nothing w t u ty e i0 hut hi0 A0 xs.length xs.length (Nat.le_refl _) X (by rw [hsize0];exact hsrc),zn.quiet H hs rfl⟩
       ·cases hv
     ·-- an own row
      rename_i id off len
      split at hv
      ·rename_i sz' e' xs hb
       split at hv
       ·rename_i hc2
        obtain ⟨rfl,rfl,hol,hfit⟩:=hc2
        cases hv
        have hlen:=hfits _ hfit
        have hbn:born h id=true:=hsc
        have hidl:id < h.length:=(List.getElem?_eq_some_iff.1 hb).1
        obtain ⟨HD,KD⟩:=H.drop hidl hbn
        have hlenD:(qW h id .gone).length=h.length:=by unfold qW;rw [if_pos hidl];simp
        have hidn:id ≠ nw:=fun he=>by subst he;rw [hf.zy] at hbn;cases hbn
        have hfD:kA (qW h id .gone) nw:=by
         rcases hf with h1 | h1
         ·exact .inl (by rw [hlenD];exact h1)
         ·exact .inr (by rw [qR (Nat.le_of_lt hidl) hidn.symm];exact h1)
        obtain ⟨hpsz,hxl,hcase⟩:=H.own id _ hb
        have hdl:(xs.drop off).length=len:=by simp;omega
        have hdx:∀ y,y ∈ xs.drop off → y.length=sz':=fun y hy=>hxl y (List.mem_of_mem_drop hy)
        have hrow:rowOf h (.sl id off len)=some (xs.drop off):=by
         unfold rowOf;simp only [hb];rw [if_pos (by omega)]
         congr 1;exact List.take_of_length_le (by omega)
        obtain ⟨A,c,olds,hSe,hlc,hcm,hold,hA,hcell⟩:=xU H hp hs hrow hdx (fun id' off' len' e2 sz2 xs2 he hb2=>by
         cases he;rw [hb] at hb2;cases hb2;rfl)
        subst hSe
        rw [hdl] at hs hlc
        have hgrow:c < len + ys.length → ∃ y w',(Builtin.append_ #[t,u] ty #[.slice A (xs.drop off).length c,X]).run P w = .ok y w' ∧ zn N h ρ w (.sl nw 0 (len + ys.length)) (app h [(id,.gone),(nw,.rows sz' e' (xs.drop off ++ ys))]) y w':=fun hg=>by
         have hrd:(Builtin.firstCells i0.size (xs.drop off).length (.slice A (xs.drop off).length c)).run P w.drew = .ok olds.toArray w.drew:=by
          rw [hsize0]
          cases A with
          | none =>
           have h0:=hA rfl
           have:olds=[]:=List.eq_nil_of_length_eq_zero (by rw [hold.1,h0];simp)
           subst this
           simp [Builtin.firstCells]
          | some a=>exact run_firstCells_some w.drew sz' _ a _ _ olds hold.1 (by simpa using hcell a rfl)
         refine ⟨_,_,run_append_grow_src w t u ty e' i0 z0 hut hi0 hz0 A (xs.drop off).length c olds hrd X ys.length news (by rw [hsize0];exact hsrc) (by omega) (by omega) (growslice_fits (by omega) (by rw [hbytes0,hdl];exact hfit)),?_⟩
         have hg2:=K5 (e:=e') HD hfD hzs hdx hyl hold hnew (cap:=grownCap w ((xs.drop off).length + ys.length) c e') (grownCap_ge w _ _ e') (by have:=grownCap_le_maxLen w ((xs.drop off).length + ys.length) c e' (by unfold maxLen;omega);unfold maxLen at this;exact this)
         have:=zn.zie KD hg2
         rw [hdl] at this ⊢
         exact this
        by_cases hroom:len + ys.length ≤ c
        ·cases hs with
         | sn _ hph =>
          have hys0:ys=[]:=List.eq_nil_of_length_eq_zero (by omega)
          subst hys0
          have hnn:news=[]:=List.eq_nil_of_length_eq_zero (by rw [hnew.1];simp)
          subst hnn
          have hd0:=List.eq_nil_of_length_eq_zero hdl
          refine ⟨_,_,run_append_nothing w t u ty e' i0 hut hi0 none _ 0 (by omega) X (by rw [hsize0];exact hsrc),?_⟩
          refine zn.zie KD ?_
          rw [hd0]
          exact zn.new (p:=⟨0,0,0,sz',true⟩) HD hfD (Made.refl w) (fun h=>by cases h) (by simp) rfl ⟨rfl,by simp,.inl ⟨rfl,rfl⟩⟩ (.sn nw (by simp)) (by simp [AV.sc])
         | sl _ _ _ _ o hph ho h1 h2 hm =>
          rcases hcase with ⟨h0,_⟩ | ⟨_,cur,bt,fr,hh,hsoft,hsize,hrange,hcellX⟩
          ·rw [hph] at h0;cases h0
          ·have hown:owns h ρ id:=⟨⟨_,hb,by simp,by simp⟩,hph⟩
           have hnl:news.length=ys.length * sz':=hnew.1
           have hspan:off * sz' + (len * sz' + ys.length * sz') ≤ (off + c) * sz':=by
            rw [← Nat.add_mul,← Nat.add_mul];exact Nat.mul_le_mul_right sz' (by omega)
           rw [hpsz] at h2 ho
           have hoE:news ≠ [] → o=(ρ id).base + off * sz':=fun hne=>ho (by
            intro hc0
            apply hne
            refine List.eq_nil_of_length_eq_zero ?_
            have:ys.length=0:=by omega
            rw [hnl,this,Nat.zero_mul])
           have hin:∀ j,j < news.length → o + (xs.drop off).length * i0.size + j < cur.size:=fun j hj=>by
            rw [hoE (by intro h0;rw [h0] at hj;simp at hj),hdl,hsize0];omega
           refine ⟨_,_,run_append_room_src w t u ty e' i0 hut hi0 (ρ id).b o (xs.drop off).length c X ys.length news (by rw [hsize0];exact hsrc) (by omega) (fun j hj=>by
             rw [z8 hh,Array.getElem?_eq_getElem (hin j hj)];rfl) (fun j hj=>by
             have:=hsoft _ (hin j hj)
             simp only [World.frozen?,hh];simpa using this),?_⟩
           have hwr:=jV (ρ id).b news (o + (xs.drop off).length * i0.size) w
           have hhp:=wN (ρ id).b bt fr news (o + (xs.drop off).length * i0.size) cur w hh
           have hst:∀ b,N b → N b ∧ (w.setCells (ρ id).b (o + (xs.drop off).length * i0.size) news).heap[b]?=w.heap[b]?:=fun b hN=>⟨hN,hwr.old b (fun e=>H.apart id hown (e ▸ hN))⟩
           let p:Pl:=⟨(ρ id).b,(ρ id).base + off * sz',(ρ id).size,sz',false⟩
           have hblk:ka (w.setCells (ρ id).b (o + (xs.drop off).length * i0.size) news) N (upd ρ nw p) p (.rows sz' e' (xs.drop off ++ ys)):=by
            refine ⟨rfl,fun y hy=>(List.mem_append.1 hy).elim (hdx y) (hyl y),.inr ⟨rfl,_,bt,fr,hhp,by simpa [zp] using hsoft,by simp [zp,hsize,p],?_,fun j i hj hi=>?_⟩⟩
            ·simp only [List.length_append,hdl,p,List.size_toArray,zp,Array.length_toList]
             rw [Nat.add_mul,Nat.add_assoc];omega
            ·simp only [List.length_append,hdl] at hj
             have hget:=fun n hn=>qm news cur.toList (o + (xs.drop off).length * i0.size) n hn
             by_cases hnn:news=[]
             ·subst hnn
              have hys0:ys.length=0:=by
               have h0:ys.length * sz'=0:=by rw [← hnl];rfl
               rcases Nat.mul_eq_zero.1 h0 with h | h <;> omega
              have e1:(xs.drop off ++ ys)[j]'(by simp;omega)=xs[off + j]'(by omega):=by
               rw [List.getElem_append_left (by simp;omega)];simp
              obtain ⟨y,hy,hry⟩:=hcellX (off + j) i (by omega) (by rw [← e1];exact hi)
              refine ⟨y,?_,by simp only [e1];exact hry.mono hst⟩
              simp only [kK,p]
              rw [show (ρ id).base + off * sz' + (j * sz' + i)=(ρ id).base + ((off + j) * sz' + i) by rw [Nat.add_mul];omega]
              simpa using hy
             ·have hoo:=hoE hnn
              have hle2:o + (xs.drop off).length * i0.size + news.length ≤ cur.toList.length:=by
               rw [hoo,hdl,hsize0,hnl];simp only [Array.length_toList];omega
              have hg:=hget (p.base + (j * sz' + i)) hle2
              have hE:o + (xs.drop off).length * i0.size=(ρ id).base + off * sz' + len * sz':=by rw [hoo,hdl,hsize0]
              simp only [List.getElem?_toArray]
              rw [hg]
              by_cases hjx:j < len
              ·have e1:(xs.drop off ++ ys)[j]'(by simp;omega)=xs[off + j]'(by omega):=by
                rw [List.getElem_append_left (by simp;omega)];simp
               have hi2:i < (xs[off + j]'(by omega)).length:=by rw [← e1];exact hi
               have hi3:i < sz':=by rw [hxl _ (List.getElem_mem _)] at hi2;exact hi2
               have hlt:=vV hjx hi3
               obtain ⟨y,hy,hry⟩:=hcellX (off + j) i (by omega) hi2
               rw [if_neg (by simp only [p];omega)]
               refine ⟨y,?_,by simp only [e1];exact hry.mono hst⟩
               simp only [p]
               rw [show (ρ id).base + off * sz' + (j * sz' + i)=(ρ id).base + ((off + j) * sz' + i) by rw [Nat.add_mul];omega]
               simpa using hy
              ·have e1:(xs.drop off ++ ys)[j]'(by simp;omega)=ys[j - len]'(by omega):=by
                rw [List.getElem_append_right (by simp;omega)];simp [hdl]
               have hi2:i < (ys[j - len]'(by omega)).length:=by rw [← e1];exact hi
               have hi3:i < sz':=by rw [hyl _ (List.getElem_mem _)] at hi2;exact hi2
               have hlt:=vV (n:=ys.length) (show j - len < ys.length by omega) hi3
               have hsub:(j - len) * sz'=j * sz' - len * sz':=Nat.sub_mul _ _ _
               have hjm:len * sz' ≤ j * sz':=Nat.mul_le_mul_right sz' (by omega)
               obtain ⟨y,hy,hry⟩:=hnew.2.2 (j - len) i (by omega) hi2
               rw [if_pos (by simp only [p];omega)]
               refine ⟨y,?_,by simp only [e1];exact hry.mono hst⟩
               rw [show p.base + (j * sz' + i) - (o + (xs.drop off).length * i0.size)=(j - len) * sz' + i by simp only [p];omega]
               exact hy
           obtain ⟨HM,KM⟩:=H.move hown hf hwr (p:=p) rfl (by simp) rfl hblk
           refine ⟨⟨N,upd ρ nw p,HM,?_,KM,?_⟩⟩
           ·have:=zo.sl (w:=w.setCells (ρ id).b (o + (xs.drop off).length * i0.size) news) (N:=N) (ρ:=upd ρ nw p) nw 0 (len + ys.length) c o (by simp [p]) (by simp only [zV,p,Nat.zero_mul,Nat.add_zero];exact ho) hroom (by
             simp only [zV,p,Nat.zero_add];rw [Nat.add_mul] at h2;omega) hm
            simp only [zV,p] at this
            rw [show (xs.drop off).length + ys.length=len + ys.length by rw [hdl]];exact this
           ·show born (qW (qW h id .gone) nw _) nw=true
            unfold born;rw [qe hfD.le]
        ·exact hgrow (by omega)
       ·cases hv
      ·cases hv
     ·cases hv
    ·cases hv
   ·cases hv
  ·cases hv
 ·cases hv
end
end Go.Ev
