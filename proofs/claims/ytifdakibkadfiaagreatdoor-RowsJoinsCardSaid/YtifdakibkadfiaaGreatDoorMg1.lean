import Derived.WalkKit
import Derived.Handy
import Derived.Test.YtifdakibkadfiaaGreatDoorProg
import Derived.WalkSpells
import Derived.WalkLawsBesides
import Derived.Deep.Light
import Derived.Deep.LoopGhost
import Derived.Shelf.Lay
import Derived.Lib.Hide
import Derived.Test.YtifdakibkadfiaaGreatDoorShelf
import Derived.Deep.Quiet
import Derived.Deep.QuietTactic
import Derived.BigQuiet
set_option linter.all false
set_option maxRecDepth 100000
set_option maxHeartbeats 8000000
section
namespace Go.Proofs.YtifdakibkadfiaaGreatDoor
open Go.RowKit
structure GV where
 k:Int
 i:Int
 s:ByteArray
deriving DecidableEq
instance:Inhabited GV:=⟨⟨0,0,ByteArray.empty⟩⟩
def GV.cells (v:GV):Array Value:=#[.int .i64 v.k,.int .i64 v.i,.string v.s]
def GV.val (v:GV):Value:=.agg #[.int .i64 v.k,.int .i64 v.i,.string v.s]
def I64 (n:Int):Prop:=-9223372036854775808 ≤ n ∧ n ≤ 9223372036854775807
def GV.ok (v:GV):Bool:=
 (v.k == 0 && v.i == 0 && v.s.toList.isEmpty) || (v.k == 1 && (v.i == 0 || v.i == 1) && v.s.toList.isEmpty) || (v.k == 2 && v.s.toList.isEmpty) || ((v.k == 3 || v.k == 4) && v.i == 0)
def zx (v:Value) (w:World) (e:Ending) (w':World):Prop:=e = .returned v ∧ Below w.heap.size w w'
theorem zx.mk {v v':Value} {w w':World} (h:v'=v) (hb:Below w.heap.size w w'):zx v w (.returned v') w':=⟨by rw [h],hb⟩
theorem zx.int {k:IntKind} {n n':Int} {w w':World} (h:n'=n) (hb:Below w.heap.size w w'):zx (.int k n) w (.returned (.int k n')) w':=⟨by rw [h],hb⟩
theorem zx.bool {n n':Bool} {w w':World} (h:n'=n) (hb:Below w.heap.size w w'):zx (.bool n) w (.returned (.bool n')) w':=⟨by rw [h],hb⟩
theorem zK {W w1:World} (hb:Below W.heap.size W w1):(∀ b o,b < W.heap.size → w1.cell? ⟨b,o,none⟩=W.cell? ⟨b,o,none⟩) ∧ (∀ b o,b < W.heap.size → w1.frozen? ⟨b,o,none⟩=W.frozen? ⟨b,o,none⟩):=
 ⟨fun b o h=>hb.cell (p:=⟨b,o,none⟩) h,fun b o h=>hb.frozen (p:=⟨b,o,none⟩) h⟩
theorem Kw (x y:BitVec 64):x=(x &&& y) ||| (x &&& ~~~y):=by
 ext j hj
 simp only [BitVec.getElem_or,BitVec.getElem_and,BitVec.getElem_not]
 cases x[j] <;> cases y[j] <;> rfl
theorem Ki (x:BitVec 64):(x &&& ~~~1#64=0#64) ↔ (x=0#64 ∨ x=1#64):=by
 constructor
 ·intro h
  have e:=Kw x 1#64
  rw [h] at e
  have e2:x.toNat=x.toNat % 2:=by
   have:=congrArg BitVec.toNat e
   simpa [Nat.and_one_is_mod] using this
  have:x.toNat=0 ∨ x.toNat=1:=by omega
  rcases this with h | h
  ·left;exact BitVec.eq_of_toNat_eq (by simpa using h)
  ·right;exact BitVec.eq_of_toNat_eq (by simpa using h)
 ·rintro (rfl | rfl) <;> decide
theorem ZO (i:Int) (hi:I64 i):(bits BinOp.andNot IntKind.i64 i 1 != 0) = !(i == 0 || i == 1):=by
 unfold I64 at hi
 have h1:bits BinOp.andNot IntKind.i64 i 1=IntKind.i64.wrap ((BitVec.ofInt 64 i &&& ~~~1#64).toNat:Int):=rfl
 have hk:=Ki (BitVec.ofInt 64 i)
 have hz:(bits BinOp.andNot IntKind.i64 i 1=0) ↔ (BitVec.ofInt 64 i &&& ~~~1#64)=0#64:=by
  rw [h1,IntKind.wrap_i64]
  generalize (BitVec.ofInt 64 i &&& ~~~1#64)=y
  have:=y.isLt
  constructor
  ·intro h;apply BitVec.eq_of_toNat_eq;simp;omega
  ·intro h;subst h;decide
 have hx:∀ m:Nat,m < 2 → (BitVec.ofInt 64 i=BitVec.ofNat 64 m ↔ i=m):=by
  intro m hm
  constructor
  ·intro h
   have:=congrArg BitVec.toNat h
   simp [BitVec.toNat_ofInt] at this
   omega
  ·intro h;subst h;apply BitVec.eq_of_toNat_eq;simp
 have h0:=hx 0 (by omega)
 have h2:=hx 1 (by omega)
 rw [hk] at hz
 by_cases a:i=0
 ·subst a;decide
 ·by_cases b:i=1
  ·subst b;decide
  ·have:¬ bits BinOp.andNot IntKind.i64 i 1=0:=by
    rw [hz];rintro (h | h)
    ·exact a (h0.1 h)
    ·exact b (h2.1 h)
   rw [show (i == 0)=false from beq_eq_false_iff_ne.2 a,show (i == 1)=false from beq_eq_false_iff_ne.2 b,show (bits BinOp.andNot IntKind.i64 i 1 != 0)=true from bne_iff_ne.2 this];rfl
theorem later {w W w1:World} (h1:Below w.heap.size w W) (h2:Below W.heap.size W w1):Below w.heap.size w w1:=h1.trans (h2.mono h1.size)
theorem zj {W:World} {b:Nat} {x0 x1 x2 k i s:Value} (c0:W.cell? ⟨b,0,none⟩=some x0) (c1:W.cell? ⟨b,1,none⟩=some x1) (c2:W.cell? ⟨b,2,none⟩=some x2) :
  (((W.setCell ⟨b,0,none⟩ k).setCell ⟨b,1,none⟩ i).setCell ⟨b,2,none⟩ s).cell? ⟨b,0,none⟩=some k ∧ (((W.setCell ⟨b,0,none⟩ k).setCell ⟨b,1,none⟩ i).setCell ⟨b,2,none⟩ s).cell? ⟨b,1,none⟩=some i ∧
  (((W.setCell ⟨b,0,none⟩ k).setCell ⟨b,1,none⟩ i).setCell ⟨b,2,none⟩ s).cell? ⟨b,2,none⟩=some s:=by
 unfold World.cell? at *
 cases hg:W.heap[b]? with
 | none=>simp [hg] at c0
 | some o =>
  cases o with
  | cells c e f =>
   simp only [hg,Option.isSome_none,Bool.false_eq_true,if_false] at c0 c1 c2
   have l0:0 < c.size:=(Array.getElem?_eq_some_iff.1 c0).1
   have l1:1 < c.size:=(Array.getElem?_eq_some_iff.1 c1).1
   have l2:2 < c.size:=(Array.getElem?_eq_some_iff.1 c2).1
   simp [World.setCell,Array.getElem?_modify,hg,l0,l1,l2]
  | _=>simp [hg] at c0
theorem zl {P:Program} {fn:Func} {p u:Tmp} {ty:TypeId} (hr:fn.results = #[.cell p ty,.tmp u]) {tmps:Array Value} {w:World} {b:Nat} {k i s:Value}
  (hp:tmps.getD p undef = .pointer (some ⟨b,0,none⟩)) (hc:w.cell? ⟨b,0,none⟩=some k ∧ w.cell? ⟨b,1,none⟩=some i ∧ w.cell? ⟨b,2,none⟩=some s)
  (ha:(isAgg ty).run P w = .ok true w) (hs:(sizeOf ty).run P w = .ok 3 w) :
  (results fn tmps).run P w = .ok (.tuple #[.agg #[k,i,s],tmps.getD u undef]) w:=by
 rw [results_cell_tmp hr,hp]
 obtain ⟨c0,c1,c2⟩:=hc
 simp [asAddr,loadVar,Sem.run_bind,ha,hs,loadCells,loadCellsFrom,load,Sem.run,Addr.add,c0,c1,c2,Result.andThen]
theorem zc {w:World} {o:Obj} {a:Addr} {v:Value} (h:w.cell? a=some v):(w.alloc o).cell? a=some v:=by
 rw [World.cell?_alloc_lt w o a (World.block_lt_of_cell? w a h)];exact h
theorem zb {w:World} {o:Obj} {b:Nat} {k i s:Value} (h:w.cell? ⟨b,0,none⟩=some k ∧ w.cell? ⟨b,1,none⟩=some i ∧ w.cell? ⟨b,2,none⟩=some s) :
  (w.alloc o).cell? ⟨b,0,none⟩=some k ∧ (w.alloc o).cell? ⟨b,1,none⟩=some i ∧ (w.alloc o).cell? ⟨b,2,none⟩=some s:=⟨zc h.1,zc h.2.1,zc h.2.2⟩
theorem xv {w:World} {o:Obj} {b i:Nat} (h:b < w.heap.size):(w.alloc o).frozen? ⟨b,i,none⟩=w.frozen? ⟨b,i,none⟩:=
 (zK ((Below.refl _ w).alloc (Nat.le_refl _) o)).2 b i h
end Go.Proofs.YtifdakibkadfiaaGreatDoor
end
section
namespace Go.Proofs.YtifdakibkadfiaaGreatDoor
open Go.RowKit
def zmG (b:Bool):Int:=if b then 0 else 1
theorem wP (v:GV) (w:World) (hi:I64 v.i) :
  Calls Tryz.prog 159 #[v.val] w (zx (.int .i64 (zmG v.ok)) w):=by
 obtain ⟨k,i,s⟩:=v
 have hb:=ZO i hi
 show Calls _ _ #[.agg #[.int .i64 k,.int .i64 i,.string s]] _ _
 go_enter Tryz.func159,Tryz.ntmps159
 go_wp2
 all_goals go_returns
 all_goals (refine zx.int ?_ (by go_grown))
 all_goals go_light
 all_goals (clear hi hb;unfold zmG GV.ok;simp_all <;> omega)
end Go.Proofs.YtifdakibkadfiaaGreatDoor
end
section
namespace Go.Proofs.YtifdakibkadfiaaGreatDoor
open Go.RowKit Go.Shelf Go
def VS (w:World) (v:Value) (l:List GV):Prop:=
 ∃ A c,v = .slice A l.length c ∧ l.length ≤ 281474976710656 ∧ ∀ (j:Nat) (x:GV),l[j]?=some x → ∃ b o:Nat,A=some ⟨b,o,none⟩ ∧
  w.cell? ⟨b,o + j * 3,none⟩=some (.int .i64 x.k) ∧ w.cell? ⟨b,o + j * 3 + 1,none⟩=some (.int .i64 x.i) ∧ w.cell? ⟨b,o + j * 3 + 2,none⟩=some (.string x.s)
theorem zd {w:World} {a:Addr} {v:Value} (h:w.cell? a=some v):a.block < w.heap.size:=World.block_lt_of_cell? w a h
theorem za {W w1:World} (hb:Below W.heap.size W w1) {a:Addr} {v:Value} (h:W.cell? a=some v):w1.cell? a=some v:=by
 rw [hb.cell (zd h)];exact h
theorem VS.below {W w1:World} {v:Value} {l:List GV} (h:VS W v l) (hb:Below W.heap.size W w1):VS w1 v l:=by
 obtain ⟨A,c,hv,hl,hc⟩:=h
 refine ⟨A,c,hv,hl,fun j x hj=>?_⟩
 obtain ⟨b,o,hA,h0,h1,h2⟩:=hc j x hj
 exact ⟨b,o,hA,za hb h0,za hb h1,za hb h2⟩
def zjM (g:Nat) (lb:Array Value) (p:GV → Bool) (l:List GV) (w:World):Prop:=
 ∀ W,Below w.heap.size w W → ∀ x,x ∈ l → Calls Tryz.prog g (#[x.val] ++ lb) W (zx (.bool (p x)) W)
def idxOf (p:GV → Bool) (l:List GV):Int:=match l.findIdx? p with | some i=>i | none=>-1
theorem idxOf_hit {p:GV → Bool} {l:List GV} {k:Nat} {x:GV} (hk:l[k]?=some x) (hp:p x=true) (hn:∀ j y,j < k → l[j]?=some y → p y=false):idxOf p l=k:=by
 unfold idxOf
 have:l.findIdx? p=some k:=by
  rw [List.findIdx?_eq_some_iff_getElem]
  obtain ⟨hlt,he⟩:=List.getElem?_eq_some_iff.1 hk
  refine ⟨hlt,by rw [he];exact hp,fun j hj=>?_⟩
  have:=hn j (l[j]'(by omega)) hj (List.getElem?_eq_getElem (by omega))
  simp [this]
 rw [this]
theorem xP {p:GV → Bool} {l:List GV} (hn:∀ j y,j < l.length → l[j]?=some y → p y=false):idxOf p l = -1:=by
 unfold idxOf
 have:l.findIdx? p=none:=by
  rw [List.findIdx?_eq_none_iff]
  intro x hx
  obtain ⟨j,hj,he⟩:=List.getElem_of_mem hx
  exact hn j x hj (by rw [List.getElem?_eq_getElem hj,he])
 rw [this]
theorem KG (p:GV → Bool) (l:List GV):decide (idxOf p l ≥ 0)=l.any p:=by
 unfold idxOf
 cases h:l.findIdx? p with
 | none =>
  rw [List.findIdx?_eq_none_iff] at h
  have:l.any p=false:=by simpa using h
  rw [this];decide
 | some i =>
  have h2:l.any p=true:=by
   have:=(List.findIdx?_isSome (xs:=l) (p:=p)).symm
   rw [h] at this;simpa using this
  rw [h2];simp
theorem w7 (g:Nat) (lb:Array Value) (eg:∀ args w,(callFunc g args).run Tryz.prog w = .ok (.enter g args) w) (p:GV → Bool) (v:Value) (l:List GV) (w:World)
  (hv:VS w v l) (hp:zjM g lb p l w) :
  Calls Tryz.prog 125 #[v,.func (.func g) #[] lb] w (zx (.int .i64 (idxOf p l)) w):=by
 obtain ⟨A,c,rfl,hlen,hc⟩:=hv
 go_enter Tryz.func125,Tryz.ntmps125
 go_wp2
 go_loopw [5,8] (fun _ s8 wr=>∃ k:Nat,k ≤ l.length ∧ s8 = .int .i64 k ∧ Below w.heap.size w wr ∧ Hid (∀ j y,j < k → l[j]?=some y → p y=false)) (fun _ s8 _=>l.length - (intOf s8).toNat)
 case atStart=>exact ⟨0,Nat.zero_le _,rfl,Below.refl _ _,fun j y hj=>absurd hj (Nat.not_lt_zero _)⟩
 case round =>
  obtain ⟨k,hk,rfl,hb,hn⟩:=hrel
  by_cases hlt:k < l.length
  ·obtain ⟨b,o,rfl,c0,c1,c2⟩:=hc k l[k] (List.getElem?_eq_getElem hlt)
   have d0:=za hb c0
   have d1:=za hb c1
   have d2:=za hb c2
   have hcall:=hp wr hb l[k] (List.getElem_mem hlt)
   have hx:=List.getElem?_eq_getElem hlt
   clear hc hp c0 c1 c2
   generalize l[k]=x at d0 d1 d2 hcall hx
   have HX:=Lib.hid hx
   clear hx
   unfold GV.val at hcall
   cases hq:p x with
   | true =>
    rw [hq] at hcall
    have HQ:=Lib.hid hq
    clear hq
    go_wp2_with (go_at_fn g;refine hcall.mono ?_;rintro e w' ⟨rfl,hb'⟩)
    go_returns
    exact zx.int (idxOf_hit HX.out HQ.out hn.out).symm (hb.trans (hb'.mono hb.size))
   | false =>
    rw [hq] at hcall
    have HQ:=Lib.hid hq
    clear hq
    go_wp2_with (go_at_fn g;refine hcall.mono ?_;rintro e w' ⟨rfl,hb'⟩)
    go_roundw
    case rel =>
     refine ⟨k + 1,by omega,by go_num,hb.trans (hb'.mono hb.size),fun j y hj hy=>?_⟩
     rcases Nat.lt_succ_iff_lt_or_eq.1 hj with h | rfl
     ·exact hn.out j y h hy
     ·have:=HX.out;rw [hy] at this;cases this;exact HQ.out
    case measure=>simp [intOf];omega
  ·have:k=l.length:=by omega
   have hn':Hid (∀ j y,j < l.length → l[j]?=some y → p y=false):=by subst this;exact hn
   clear hc hp hn this
   go_wp2
   go_returns
   exact zx.int (xP hn'.out).symm hb
theorem jm (g:Nat) (lb:Array Value) (eg:∀ args w,(callFunc g args).run Tryz.prog w = .ok (.enter g args) w) (p:GV → Bool) (v:Value) (l:List GV) (w:World)
  (hv:VS w v l) (hp:zjM g lb p l w) :
  Calls Tryz.prog 161 #[v,.func (.func g) #[] lb] w (zx (.bool (l.any p)) w):=by
 have hcall:=w7 g lb eg p v l w hv hp
 have ha:=Lib.hid (KG p l)
 clear hv hp eg
 generalize idxOf p l=n at hcall ha
 go_enter Tryz.func161,Tryz.ntmps161
 go_wp2_with (go_at_call 125;refine hcall.mono ?_;rintro e w' ⟨rfl,hb'⟩)
 go_returns
 exact zx.bool ha.out hb'
def cellsOf (l:List GV):List Value:=l.flatMap fun x=>[.int .i64 x.k,.int .i64 x.i,.string x.s]
theorem VH (l:List GV):(cellsOf l).length=3 * l.length:=by
 induction l with
 | nil=>rfl
 | cons x l ih=>simp only [cellsOf,List.flatMap_cons,List.length_append,List.length_cons,List.length_nil] at *;omega
theorem Yp (l:List GV) (j:Nat) (x:GV) (h:l[j]?=some x) :
  (cellsOf l)[j * 3]?=some (.int .i64 x.k) ∧ (cellsOf l)[j * 3 + 1]?=some (.int .i64 x.i) ∧ (cellsOf l)[j * 3 + 2]?=some (.string x.s):=by
 induction l generalizing j with
 | nil=>simp at h
 | cons y l ih =>
  have e:cellsOf (y :: l) = .int .i64 y.k :: .int .i64 y.i :: .string y.s :: cellsOf l:=by simp [cellsOf]
  cases j with
  | zero=>simp at h;subst h;rw [e];exact ⟨rfl,rfl,rfl⟩
  | succ j =>
   have h2:=ih j (by simpa using h)
   rw [e,show (j + 1) * 3=j * 3 + 1 + 1 + 1 from by omega]
   exact h2
theorem VS.block {W:World} {b c t:Nat} {f:Nat × Nat} {l:List GV} {more:List Value} (h:W.heap[b]?=some (.cells (cellsOf l ++ more).toArray t f)) (hl:l.length ≤ 281474976710656) :
  VS W (.slice (some ⟨b,0,none⟩) l.length c) l:=by
 refine ⟨_,c,rfl,hl,fun j x hj=>⟨b,0,rfl,?_⟩⟩
 have hb:j < l.length:=(List.getElem?_eq_some_iff.1 hj).1
 have hn:=VH l
 obtain ⟨h0,h1,h2⟩:=Yp l j x hj
 have hg:∀ i v,(cellsOf l)[i]?=some v → W.cell? ⟨b,0 + i,none⟩=some v:=by
  intro i v hi
  have:i < (cellsOf l).length:=(List.getElem?_eq_some_iff.1 hi).1
  simp only [World.cell?,h,Option.isSome_none,Bool.false_eq_true,if_false,Nat.zero_add,List.getElem?_toArray]
  rw [List.getElem?_append_left this];exact hi
 exact ⟨hg _ _ h0,by rw [Nat.add_assoc];exact hg _ _ h1,by rw [Nat.add_assoc];exact hg _ _ h2⟩
theorem VS.made {W:World} {n m c t:Nat} {cs:Array Value} (l:List GV) (hn:n=W.heap.size) (hm:m=l.length) (hcs:cs=(cellsOf l).toArray) (hl:l.length ≤ 281474976710656) :
  VS (W.alloc (.cells cs t)) (.slice (some ⟨n,0,none⟩) m c) l:=by
 subst hn hm hcs
 exact VS.block (more:=[]) (by rw [List.append_nil];exact heap_alloc_new W _) hl
theorem VS.nil (W:World) (A:Option Addr) (c:Nat):VS W (.slice A 0 c) []:=⟨A,c,rfl,by simp,fun j x h=>by simp at h⟩
end Go.Proofs.YtifdakibkadfiaaGreatDoor
end
section
namespace Go.Proofs.YtifdakibkadfiaaGreatDoor
open Go.RowKit
def fits (n:Int):Bool:=decide (-9223372036854775808 ≤ n ∧ n ≤ 9223372036854775807)
def over (n:Int):Int × Int:=if fits n then (n,0) else (0,30)
def zm (op:List UInt8) (a b:Int):Int × Int:=
 if op=[43] then over (a + b)
 else if op=[45] then over (a - b)
 else if op=[42] then over (a * b)
 else if b=0 then (0,31)
 else if op=[37] then (if b = -1 then (0,0) else (a.tmod b,0))
 else over (a.tdiv b)
theorem zx.pair {a b:Int} {p:Int × Int} {w w':World} (h:p=(a,b)) (hb:Below w.heap.size w w'):zx (.tuple #[.int .i64 p.1,.int .i64 p.2]) w (.returned (.tuple #[.int .i64 a,.int .i64 b])) w':=⟨by rw [h],hb⟩
theorem Xw (a:Int) (ha:I64 a):(BitVec.ofInt 64 a).msb=decide (a < 0):=by
 unfold I64 at ha
 rw [BitVec.msb_eq_decide,BitVec.toNat_ofInt]
 by_cases h:a < 0
 ·simp [h];omega
 ·simp [h];omega
theorem ZE (a b:Int) (ha:I64 a) (hb:I64 b):(0 ≤ bits BinOp.xor IntKind.i64 a b) ↔ (a < 0 ↔ b < 0):=by
 have h1:bits BinOp.xor IntKind.i64 a b=IntKind.i64.wrap ((BitVec.ofInt 64 a ^^^ BitVec.ofInt 64 b).toNat:Int):=rfl
 have hm:(BitVec.ofInt 64 a ^^^ BitVec.ofInt 64 b).msb=(decide (a < 0) ^^ decide (b < 0)):=by
  rw [BitVec.msb_xor,Xw a ha,Xw b hb]
 rw [h1,IntKind.wrap_i64]
 rw [BitVec.msb_eq_decide] at hm
 have hlt:=(BitVec.ofInt 64 a ^^^ BitVec.ofInt 64 b).isLt
 generalize (BitVec.ofInt 64 a ^^^ BitVec.ofInt 64 b).toNat=n at *
 by_cases p:a < 0 <;> by_cases q:b < 0 <;> simp [p,q] at hm ⊢ <;> omega
theorem I64.wrap64 (n:Int):I64 (wrap64 n):=by unfold I64 RowKit.wrap64;omega
theorem zhh (a b:Int) (ha:I64 a) (hb:I64 b):(bits BinOp.xor IntKind.i64 a b < 0) ↔ ¬ (a < 0 ↔ b < 0):=by
 rw [← Int.not_le,ZE a b ha hb]
theorem ziD (a b:Int) (ha:I64 a) (hb:I64 b):((0 ≤ bits BinOp.xor IntKind.i64 a b) ∧ bits BinOp.xor IntKind.i64 a (wrap64 (a + b)) < 0) ↔ fits (a + b)=false:=by
 rw [ZE a b ha hb,zhh a _ ha (I64.wrap64 _)]
 unfold I64 at ha hb
 unfold fits RowKit.wrap64
 rw [decide_eq_false_iff_not]
 omega
theorem xor_not (b:Int) (hb:I64 b):bits BinOp.xor IntKind.i64 (-1) b = -1 - b:=by
 have h1:bits BinOp.xor IntKind.i64 (-1) b=IntKind.i64.wrap ((BitVec.ofInt 64 (-1) ^^^ BitVec.ofInt 64 b).toNat:Int):=rfl
 have h2:(BitVec.ofInt 64 (-1) ^^^ BitVec.ofInt 64 b) = ~~~ BitVec.ofInt 64 b:=by
  have:(BitVec.ofInt 64 (-1))=BitVec.allOnes 64:=by decide
  rw [this,BitVec.allOnes_xor]
 rw [h1,h2,IntKind.wrap_i64,BitVec.toNat_not,BitVec.toNat_ofInt]
 unfold I64 at hb
 omega
theorem zh1 (a b:Int) (ha:I64 a) (hb:I64 b):((0 ≤ bits BinOp.xor IntKind.i64 a (-1 - b)) ∧ bits BinOp.xor IntKind.i64 a (wrap64 (a - b)) < 0) ↔ fits (a - b)=false:=by
 have hc:I64 (-1 - b):=by unfold I64 at *;omega
 rw [ZE a _ ha hc,zhh a _ ha (I64.wrap64 _)]
 unfold I64 at ha hb
 unfold fits RowKit.wrap64
 rw [decide_eq_false_iff_not]
 omega
theorem zjq (a:Int) (ha:I64 a) (h:a < 0):IntKind.u64.wrap (-IntKind.u64.wrap a)=(a.natAbs:Int):=by
 unfold I64 at ha
 rw [IntKind.wrap_u64,IntKind.wrap_u64];omega
theorem size_pos (a:Int) (ha:I64 a) (h:0 ≤ a):IntKind.u64.wrap a=(a.natAbs:Int):=by
 unfold I64 at ha
 rw [IntKind.wrap_u64];omega
theorem jb {n:Int} (h:fits n=true):wrap64 n=n:=by
 unfold fits at h;have:=of_decide_eq_true h;unfold RowKit.wrap64;omega
theorem zh2 (a b:Int):(¬ (a.natAbs * b.natAbs / 18446744073709551616=0) ∨ 9223372036854775808 < a.natAbs * b.natAbs % 18446744073709551616 ∨ (9223372036854775807 < a.natAbs * b.natAbs % 18446744073709551616 ∧ (a < 0 ↔ b < 0))) ↔ fits (a * b)=false:=by
 unfold fits
 rw [decide_eq_false_iff_not,← Int.natAbs_mul]
 have hs:(a < 0 ↔ b < 0) → 0 ≤ a * b:=by
  intro h
  by_cases p:a < 0
  ·exact Int.mul_nonneg_of_nonpos_of_nonpos (by omega) (by have:=h.1 p;omega)
  ·exact Int.mul_nonneg (by omega) (by have:=mt h.2 p;omega)
 have hs2:¬ (a < 0 ↔ b < 0) → a * b ≤ 0:=by
  intro h
  by_cases p:a < 0
  ·have q:¬ b < 0:=fun q=>h ⟨fun _=>q,fun _=>p⟩
   exact Int.mul_nonpos_of_nonpos_of_nonneg (by omega) (by omega)
  ·have q:b < 0:=Decidable.byContradiction fun q=>h ⟨fun x=>absurd x p,fun x=>absurd x q⟩
   exact Int.mul_nonpos_of_nonneg_of_nonpos (by omega) (by omega)
 generalize a * b=n at *
 by_cases h:(a < 0 ↔ b < 0)
 ·have:=hs h;simp only [h,and_true];omega
 ·have:=hs2 h;simp only [h,and_false,or_false];omega
theorem KU (a b:Int) (ha:I64 a) (h:¬ (a = -9223372036854775808 ∧ b = -1)) (hb:b ≠ 0):fits (a.tdiv b)=true:=by
 unfold I64 at ha
 unfold fits
 apply decide_eq_true
 have h1:(a.tdiv b).natAbs ≤ a.natAbs:=by rw [Int.natAbs_tdiv];exact Nat.div_le_self _ _
 by_cases p:a = -9223372036854775808
 ·have q:b ≠ -1:=fun q=>h ⟨p,q⟩
  by_cases r:b=1
  ·subst r;rw [Int.tdiv_one];omega
  ·have:b.natAbs ≥ 2:=by omega
   have h3:(a.tdiv b).natAbs ≤ a.natAbs / 2:=by rw [Int.natAbs_tdiv];exact Nat.div_le_div_left this (by omega)
   omega
 ·omega
end Go.Proofs.YtifdakibkadfiaaGreatDoor
end
section
namespace Go.Proofs.YtifdakibkadfiaaGreatDoor
open Go.RowKit Go.Shelf Go
theorem YF (p q:Prop) [Decidable p] [Decidable q]:(decide p == decide q)=decide (p ↔ q):=by
 by_cases p <;> by_cases q <;> simp [*]
theorem KA (a:Int) (w:World) (ha:I64 a) :
  Calls Tryz.prog 166 #[.int .i64 a] w fun e w'=>e = .returned (.int .u64 (a.natAbs:Int)) ∧ w'=w:=by
 have h1:=Lib.hid (zjq a ha)
 have h2:=Lib.hid (size_pos a ha)
 clear ha
 go_enter Tryz.func166,Tryz.ntmps166
 go_wp2
 ·have h:a < 0:=by assumption
  go_returns;exact ⟨congrArg (fun n=>Ending.returned (.int .u64 n)) (h1.out h),rfl⟩
 ·have h:0 ≤ a:=by assumption
  go_returns;exact ⟨congrArg (fun n=>Ending.returned (.int .u64 n)) (h2.out h),rfl⟩
theorem zcx (a b:Int) (w:World) (ha:I64 a) (hb:I64 b) :
  Calls Tryz.prog 108 #[.string ⟨#[43]⟩,.int .i64 a,.int .i64 b] w (zx (.tuple #[.int .i64 (zm [43] a b).1,.int .i64 (zm [43] a b).2]) w):=by
 have hr:zm [43] a b=over (a + b):=rfl
 have ho:=Lib.hid (ziD a b ha hb)
 rw [hr];clear hr ha hb
 go_enter Tryz.func108,Tryz.ntmps108
 go_wp2
 all_goals go_returns
 all_goals go_light
 all_goals refine zx.pair ?_ (Below.refl _ _)
 all_goals unfold over
 ·rw [ho.out.1 ⟨by assumption,by assumption⟩];rfl
 all_goals
  cases h:fits (a + b) with
  | true=>rw [jb h];rfl
  | false=>have:=ho.out.2 h;omega
theorem zdS (a b:Int) (w:World) (ha:I64 a) (hb:I64 b) :
  Calls Tryz.prog 108 #[.string ⟨#[45]⟩,.int .i64 a,.int .i64 b] w (zx (.tuple #[.int .i64 (zm [45] a b).1,.int .i64 (zm [45] a b).2]) w):=by
 have hr:zm [45] a b=over (a - b):=rfl
 have ho:=zh1 a b ha hb
 rw [← xor_not b hb] at ho
 have ho:=Lib.hid ho
 rw [hr];clear hr ha hb
 rename_i ho0;clear ho0
 go_enter Tryz.func108,Tryz.ntmps108
 go_wp2
 all_goals go_returns
 all_goals go_light
 all_goals refine zx.pair ?_ (Below.refl _ _)
 all_goals unfold over
 ·rw [ho.out.1 ⟨by assumption,by assumption⟩];rfl
 all_goals
  cases h:fits (a - b) with
  | true=>rw [jb h];rfl
  | false=>have:=ho.out.2 h;omega
theorem zd0 (a b:Int) (w:World) (ha:I64 a) (hb:I64 b) :
  Calls Tryz.prog 108 #[.string ⟨#[42]⟩,.int .i64 a,.int .i64 b] w (zx (.tuple #[.int .i64 (zm [42] a b).1,.int .i64 (zm [42] a b).2]) w):=by
 have hr:zm [42] a b=over (a * b):=rfl
 have ho:=Lib.hid (zh2 a b)
 have s1:=KA a w ha
 have s2:=KA b w hb
 have hx:a.natAbs < 18446744073709551616:=by unfold I64 at ha;omega
 have hy:b.natAbs < 18446744073709551616:=by unfold I64 at hb;omega
 have s3:=Tryz.bits_Mul64 a.natAbs b.natAbs hx hy w
 rw [hr];clear hr ha hb hx hy
 generalize a.natAbs=x at *
 generalize b.natAbs=y at *
 generalize hp:x * y / 18446744073709551616=hi at *
 generalize hq:x * y % 18446744073709551616=lo at *
 clear hp hq
 go_enter Tryz.func108,Tryz.ntmps108
 go_wp2_with fail
 refine s1.mono ?_
 rintro e w' ⟨rfl,rfl⟩
 go_wp2_with fail
 refine s2.mono ?_
 rintro e w' ⟨rfl,rfl⟩
 clear s1 s2
 go_wp2_with fail
 refine s3.mono ?_
 rintro e w' ⟨rfl,rfl⟩
 clear s3
 go_wp2
 all_goals go_returns
 all_goals go_light
 all_goals refine zx.pair ?_ (Below.refl _ _)
 all_goals unfold over
 all_goals
  have ht:(decide (a < 0) == decide (b < 0))=decide (a < 0 ↔ b < 0):=YF _ _
  try simp only [ht,decide_eq_true_eq,decide_eq_false_iff_not] at *
  have h1:=ho.out
  cases h:fits (a * b) with
  | true=>first | (rw [jb h];rfl) | (exfalso;rw [h] at h1;simp only [reduceCtorEq,iff_false] at h1;omega)
  | false=>first | rfl | (exfalso;rw [h] at h1;simp only [iff_true] at h1;omega)
theorem Ku (a b:Int):zm [37] a b=if b=0 then (0,31) else if b = -1 then (0,0) else (a.tmod b,0):=rfl
theorem Q2 (a b:Int):zm [47] a b=if b=0 then (0,31) else over (a.tdiv b):=rfl
theorem YQ {a b X:Int} (hX:X=a.tdiv b) (hf:fits (a.tdiv b)=true) (h0:¬ b=0):zm [47] a b=(wrap64 X,0):=by
 rw [Q2,if_neg h0,hX]
 unfold over
 rw [hf,jb hf];rfl
theorem zcQ (a b:Int) (w:World) :
  Calls Tryz.prog 108 #[.string ⟨#[37]⟩,.int .i64 a,.int .i64 b] w (zx (.tuple #[.int .i64 (zm [37] a b).1,.int .i64 (zm [37] a b).2]) w):=by
 generalize hp:zm [37] a b=p
 have HP:=Lib.hid hp;clear hp
 go_enter Tryz.func108,Tryz.ntmps108
 by_cases h0:b=0
 ·subst h0
  go_wp2
  go_returns
  exact zx.pair (by rw [← HP.out];rfl) (Below.refl _ _)
 ·have h0':(b == 0)=false:=beq_eq_false_iff_ne.2 h0
  by_cases h1:b = -1
  ·subst h1
   go_wp2
   go_returns
   exact zx.pair (by rw [← HP.out];rfl) (Below.refl _ _)
  ·have h1':(b == -1)=false:=beq_eq_false_iff_ne.2 h1
   go_wp2
   go_returns
   exact zx.pair (by rw [← HP.out,Ku,if_neg h0,if_neg h1]) (Below.refl _ _)
theorem zc9 (a b:Int) (w:World) (ha:I64 a) :
  Calls Tryz.prog 108 #[.string ⟨#[47]⟩,.int .i64 a,.int .i64 b] w (zx (.tuple #[.int .i64 (zm [47] a b).1,.int .i64 (zm [47] a b).2]) w):=by
 have hf:=Lib.hid (KU a b ha)
 clear ha
 generalize hp:zm [47] a b=p
 have HP:=Lib.hid hp;clear hp
 by_cases h0:b=0
 ·subst h0
  go_enter Tryz.func108,Tryz.ntmps108
  go_wp2
  go_returns
  exact zx.pair (by rw [← HP.out];rfl) (Below.refl _ _)
 ·by_cases h1:a = -9223372036854775808 ∧ b = -1
  ·obtain ⟨rfl,rfl⟩:=h1
   clear h0
   go_enter Tryz.func108,Tryz.ntmps108
   go_wp2
   go_returns
   exact zx.pair (by rw [← HP.out];decide) (Below.refl _ _)
  ·have h0':(b == 0)=false:=beq_eq_false_iff_ne.2 h0
   have H0:=Lib.hid h0
   have H1:=Lib.hid h1
   have hc:b = -1 ∨ b ≠ -1:=Decidable.em _
   rcases hc with rfl | hc
   ·have h3:(a == -9223372036854775808)=false:=beq_eq_false_iff_ne.2 (fun e=>h1 ⟨e,rfl⟩)
    clear h1
    go_enter Tryz.func108,Tryz.ntmps108
    go_wp2
    go_returns
    exact zx.pair (by rw [← HP.out];exact YQ (by rw [Int.tdiv_neg,Int.tdiv_one]) (hf.out H1.out H0.out) H0.out) (Below.refl _ _)
   ·have h3:(b == -1)=false:=beq_eq_false_iff_ne.2 hc
    clear h1 hc
    go_enter Tryz.func108,Tryz.ntmps108
    go_wp2
    all_goals go_returns
    ·have ha:a = -9223372036854775808:=by assumption
     exact zx.pair (by rw [← HP.out];exact YQ (by rw [ha,← Int.neg_tdiv]) (hf.out H1.out H0.out) H0.out) (Below.refl _ _)
    ·exact zx.pair (by rw [← HP.out];exact YQ rfl (hf.out H1.out H0.out) H0.out) (Below.refl _ _)
end Go.Proofs.YtifdakibkadfiaaGreatDoor
end
section
namespace Go.Proofs.YtifdakibkadfiaaGreatDoor
open Go.RowKit Go.Shelf Go
theorem check_1 (v:GV) (w:World) (hi:I64 v.i) :
  Calls Tryz.prog 162 #[v.val] w (zx (.bool (!v.ok)) w):=by
 have hc:=fun W=>wP v W hi
 clear hi
 unfold GV.val at *
 generalize hk:v.ok=q at *
 have HK:=Lib.hid hk;clear hk
 go_enter Tryz.func162,Tryz.ntmps162
 cases q
 all_goals
  unfold zmG at hc
  go_wp2_with (go_at_call 159;refine (hc _).mono ?_;rintro e w' ⟨rfl,hb'⟩)
  go_returns
  exact zx.bool rfl (((Below.refl _ _).alloc (Nat.le_refl _) _).trans (hb'.mono (by simp)))
theorem zlZ (v:GV) (w:World) :
  Calls Tryz.prog 164 #[v.val] w (zx (.bool (v.k == 0)) w):=by
 unfold GV.val at *
 go_enter Tryz.func164,Tryz.ntmps164
 go_wp2
 go_returns
 exact zx.bool rfl ((Below.refl _ _).alloc (Nat.le_refl _) _)
theorem vx (v:Value) (l:List GV) (w:World) (hv:VS w v l) (hi:∀ x,x ∈ l → I64 x.i) :
  Calls Tryz.prog 105 #[v] w (zx (.bool (l.all GV.ok)) w):=by
 have hc:=jm 162 #[] (enters_of Tryz.func162 (by kernel_rfl) rfl) (fun x=>!x.ok) v l w hv (fun W _ x hx=>check_1 x W (hi x hx))
 have he:(!l.any fun x=>!x.ok)=l.all GV.ok:=by rw [List.all_eq_not_any_not]
 clear hv hi
 generalize l.any (fun x=>!x.ok)=q at *
 have HE:=Lib.hid he;clear he
 go_enter Tryz.func105,Tryz.ntmps105
 go_wp2_with (go_at_call 161;refine hc.mono ?_;rintro e w' ⟨rfl,hb'⟩)
 go_returns
 exact zx.bool HE.out hb'
theorem yJ (v:Value) (l:List GV) (w:World) (hv:VS w v l) :
  Calls Tryz.prog 107 #[v] w (zx (.bool (l.any fun x=>x.k == 0)) w):=by
 have hc:=jm 164 #[] (enters_of Tryz.func164 (by kernel_rfl) rfl) (fun x=>x.k == 0) v l w hv (fun W _ x _=>zlZ x W)
 clear hv
 generalize l.any (fun x=>x.k == 0)=q at *
 go_enter Tryz.func107,Tryz.ntmps107
 go_wp2_with (go_at_call 161;refine hc.mono ?_;rintro e w' ⟨rfl,hb'⟩)
 go_returns
 exact zx.bool rfl hb'
def GV.num (n:Int):GV:=⟨2,n,⟨#[]⟩⟩
def GV.text (s:ByteArray):GV:=⟨3,0,s⟩
def GV.none:GV:=⟨0,0,⟨#[]⟩⟩
theorem vW (n:Int) (w:World) :
  Calls Tryz.prog 109 #[.int .i64 n] w (zx (GV.num n).val w):=by
 unfold GV.val GV.num
 go_enter Tryz.func109,Tryz.ntmps109
 go_wp2
 go_returns
 exact zx.mk rfl (by go_grown)
theorem qU (n:Int) (w:World) :
  Calls Tryz.prog 36 #[.int .i64 n] w (zx (GV.num n).val w):=by
 unfold GV.val GV.num
 go_enter Tryz.func36,Tryz.ntmps36
 go_wp2
 go_returns
 exact zx.mk rfl (by go_grown)
theorem vE (s:ByteArray) (w:World) :
  Calls Tryz.prog 167 #[.string s] w (zx (GV.text s).val w):=by
 unfold GV.val GV.text
 go_enter Tryz.func167,Tryz.ntmps167
 go_wp2
 go_returns
 exact zx.mk rfl (by go_grown)
end Go.Proofs.YtifdakibkadfiaaGreatDoor
end
section
namespace Go.Proofs.YtifdakibkadfiaaGreatDoor
open Go.RowKit
def waits (ops:List Oper) (j i:Nat):Bool:=match ops[j]? with
 | some o=>o.after.any fun e=>Region.binds .any e && e.on == i
 | none=>false
def xa (ops:List Oper) (n:Nat):Bool:=
 decide (n < ops.length) &&
 ((List.range ops.length).all fun j=>match ops[j]? with
  | some o=>(o.after.all fun e=>!Region.binds .any e || decide (e.on < j)) && (match o.guard with | some (g,_)=>decide (g < j) | none=>true)
  | none=>true) &&
 ((List.range ops.length).all fun t=>decide (t < n) || (List.range t).all fun i=>waits ops t i)
section
variable {P:Program} {l:List Oper} {n:Nat} {C:World → Prop}
theorem xl (h:xa l n=true) {j:Nat} {o:Oper} (hj:l[j]?=some o) {e:Edge} (he:e ∈ o.after) (hb:Region.binds .any e=true):e.on < j:=by
 simp only [xa,Bool.and_eq_true,List.all_eq_true,List.mem_range] at h
 have hlt:=(List.getElem?_eq_some_iff.1 hj).1
 have:=h.1.2 j hlt
 rw [hj] at this
 simp only [Bool.and_eq_true,Array.all_eq_true_iff_forall_mem] at this
 have h1:=this.1 e he
 rw [hb] at h1
 simpa using h1
theorem zdF (h:xa l n=true) {j:Nat} {o:Oper} (hj:l[j]?=some o) {g:Nat} {b:Bool} (hg:o.guard=some (g,b)):g < j:=by
 simp only [xa,Bool.and_eq_true,List.all_eq_true,List.mem_range] at h
 have hlt:=(List.getElem?_eq_some_iff.1 hj).1
 have:=h.1.2 j hlt
 rw [hj] at this
 simp only [Bool.and_eq_true,hg] at this
 simpa using this.2
theorem XE (h:xa l n=true) {t i:Nat} (ht:n ≤ t) (hl:t < l.length) (hi:i < t):∃ o,l[t]?=some o ∧ ∃ e ∈ o.after,Region.binds .any e=true ∧ e.on=i:=by
 simp only [xa,Bool.and_eq_true,List.all_eq_true,List.mem_range] at h
 have:=h.2 t hl
 simp only [Bool.or_eq_true,decide_eq_true_eq,List.all_eq_true,List.mem_range] at this
 have hw:=(this.resolve_left (by omega)) i hi
 unfold waits at hw
 split at hw
 ·rename_i o ho
  obtain ⟨e,he,hb⟩:=Array.any_eq_true'.1 hw
  simp only [Bool.and_eq_true,beq_iff_eq] at hb
  exact ⟨o,ho,e,he,hb.1,hb.2⟩
 ·cases hw
theorem zgI (h:xa l n=true):n < l.length:=by
 simp only [xa,Bool.and_eq_true] at h
 exact of_decide_eq_true h.1.1
def znb (l:List Oper) (k:Nat) (listed:Array Bool):Prop:=
 listed.size=l.length ∧ (∀ j,j < k → listed.getD j false=true) ∧ ∀ j,k ≤ j → j < l.length → listed.getD j true=false
theorem zcH {listed:Array Bool} {i:Nat} (h:listed.getD i true=false):listed.getD i false=false:=by
 rcases Nat.lt_or_ge i listed.size with h' | h'
 ·simp [h'] at h ⊢;exact h
 ·simp [Array.getElem?_eq_none h'] at h
theorem ZZ {listed:Array Bool} {i:Nat} (h:listed.getD i false=true):listed.getD i true=true:=by
 rcases Nat.lt_or_ge i listed.size with h' | h'
 ·simp [h'] at h ⊢;exact h
 ·simp [Array.getElem?_eq_none h'] at h
theorem wF {listed:Array Bool} {i:Nat} (h:i < listed.size) (d:Bool):(listed.setIfInBounds i true).getD i d=true:=by simp [h]
theorem jZ (h:xa l n=true) {Q:Exit → Act → World → Prop}:∀ (g k:Nat) (listed:Array Bool) (a:Act) (w:World),k + g=l.length → n ≤ k → znb l k listed →
  wpList P l.toArray Q (l.drop k) a w → wpAny P .any l.toArray Q g listed a w
 | 0,k,listed,a,w,hk,_,hu,hw=>by
  have hd:l.drop k=[]:=List.drop_eq_nil_of_le (by omega)
  rw [hd] at hw
  refine ⟨?_,hw⟩
  refine List.eq_nil_iff_forall_not_mem.2 fun j hj=>?_
  obtain ⟨h0,o,ho,_⟩:=mem_ready.1 hj
  have hlt:j < l.length:=by
   have:=(Array.getElem?_eq_some_iff.1 ho).1
   simpa using this
  have:=ZZ (hu.2.1 j (by omega))
  rw [this] at h0;cases h0
 | g + 1,k,listed,a,w,hk,hn,hu,hw=>by
  have hlt:k < l.length:=by omega
  have hdrop:l.drop k=l[k] :: l.drop (k + 1):=List.drop_eq_getElem_cons hlt
  have hok:l[k]?=some l[k]:=List.getElem?_eq_getElem hlt
  have hready:k ∈ Region.ready .any l.toArray listed:=
   mem_ready.2 ⟨hu.2.2 k (Nat.le_refl _) hlt,l[k],by simp,fun e he hb=>hu.2.1 _ (xl h hok he hb)⟩
  refine ⟨fun h0=>(by rw [h0] at hready;cases hready),fun i hi=>?_⟩
  obtain ⟨hun,o,ho,hall⟩:=mem_ready.1 hi
  have hil:i < l.length:=by
   have:=(Array.getElem?_eq_some_iff.1 ho).1
   simpa using this
  have hik:i=k:=by
   rcases Nat.lt_trichotomy i k with h1 | h1 | h1
   ·have:=ZZ (hu.2.1 i h1)
    rw [this] at hun;cases hun
   ·exact h1
   ·obtain ⟨o',ho',e,he,hb,hon⟩:=XE h (by omega) hil h1
    have:o'=o:=by
     have h2:l[i]?=some o:=by simpa using ho
     exact Option.some.inj (ho'.symm.trans h2)
    subst this
    have h2:=hall e he hb
    rw [hon,zcH (hu.2.2 k (Nat.le_refl _) hlt)] at h2
    cases h2
  subst hik
  rw [hdrop] at hw
  have hw2:wpOp P l.toArray Q i (wpList P l.toArray Q (l.drop (i + 1))) a w:=by
   unfold wpOp
   simp only [List.getElem?_toArray,hok]
   exact hw
  refine wpOp_mono (fun a' w' h'=>jZ h g (i + 1) _ a' w' (by omega) (by omega) ⟨by simp [hu.1],fun j hj=>?_,fun j hj hj2=>?_⟩ h') hw2
  ·rcases Nat.lt_succ_iff_lt_or_eq.1 hj with h1 | rfl
   ·exact getD_set_true (hu.2.1 j h1)
   ·exact wF (by rw [hu.1];exact hlt) _
  ·rw [getD_set_ne true (by omega)];exact hu.2.2 j (by omega) hj2
theorem ZY (h:xa l n=true) {Q:Exit → Act → World → Prop} {Qa:Act → Prop} (hQ:∀ a w,C w → Qa a → wpList P l.toArray Q (l.drop n) a w) :
  ∀ (f:Nat) (L listed:Array Bool) (a:Act) (w:World),C w → listed.size=l.length → L.size=n → (∀ j,j < n → ∀ d,listed.getD j d=L.getD j d) → (∀ j,n ≤ j → j < l.length → listed.getD j true=false) →
   wpAnyQ P .any (l.take n).toArray C Qa f L a → wpAny P .any l.toArray Q (f + (l.length - n)) listed a w:=by
 have hn:=zgI h
 have hget:∀ j,j < n → (l.take n).toArray[j]?=l[j]?:=fun j hj=>by simp [hj]
 have hsame:∀ (L listed:Array Bool),(∀ j,j < n → ∀ d,listed.getD j d=L.getD j d) → ∀ j,j < n → (j ∈ Region.ready .any l.toArray listed ↔ j ∈ Region.ready .any (l.take n).toArray L):=by
  intro L listed hag j hj
  rw [mem_ready,mem_ready,hget j hj,hag j hj]
  simp only [List.getElem?_toArray]
  constructor
  ·rintro ⟨h0,o,ho,hall⟩
   exact ⟨h0,o,ho,fun e he hb=>by rw [← hag _ (by have:=xl h ho he hb;omega)];exact hall e he hb⟩
  ·rintro ⟨h0,o,ho,hall⟩
   exact ⟨h0,o,ho,fun e he hb=>by rw [hag _ (by have:=xl h ho he hb;omega)];exact hall e he hb⟩
 have hfull:∀ (L:Array Bool),L.size=n → Region.ready .any (l.take n).toArray L=[] → ∀ j,j < n → L.getD j false=true:=by
  intro L hL h0 j
  induction j using Nat.strongRecOn with
  | _ j ih =>
   intro hj
   cases hb:L.getD j false with
   | true=>rfl
   | false =>
    have hjl:j < L.size:=by omega
    have hun:L.getD j true=false:=by simp [hjl] at hb ⊢;exact hb
    have:j ∈ Region.ready .any (l.take n).toArray L:=
     mem_ready.2 ⟨hun,l[j]'(by omega),by rw [hget j hj];exact List.getElem?_eq_getElem (by omega),fun e he hb =>
      ih _ (xl h (List.getElem?_eq_getElem (by omega)) he hb) (by have:=xl h (List.getElem?_eq_getElem (by omega)) he hb;omega)⟩
    rw [h0] at this;cases this
 have htail:∀ (L listed:Array Bool),(∀ j,j < n → ∀ d,listed.getD j d=L.getD j d) → ∀ t,n ≤ t → t ∈ Region.ready .any l.toArray listed → ∀ i,i < n → L.getD i false=true:=by
  intro L listed hag t ht hr i hi
  obtain ⟨_,o,ho,hall⟩:=mem_ready.1 hr
  have hlt:t < l.length:=by
   have:=(Array.getElem?_eq_some_iff.1 ho).1
   simpa using this
  obtain ⟨o',ho',e,he,hb,hon⟩:=XE h ht hlt (i:=i) (by omega)
  have:o'=o:=by
   have h2:l[t]?=some o:=by simpa using ho
   exact Option.some.inj (ho'.symm.trans h2)
  subst this
  have h2:=hall e he hb
  rw [hon,hag i hi] at h2
  exact h2
 have hend:∀ (L listed:Array Bool) (a:Act) (w:World),C w → listed.size=l.length → (∀ j,j < n → ∀ d,listed.getD j d=L.getD j d) → (∀ j,n ≤ j → j < l.length → listed.getD j true=false) →
   (∀ j,j < n → L.getD j false=true) → Qa a → wpAny P .any l.toArray Q (l.length - n) listed a w:=fun L listed a w hC hs hag ht hfl hq =>
  jZ h (l.length - n) n listed a w (by omega) (Nat.le_refl _) ⟨hs,fun j hj=>by rw [hag j hj];exact hfl j hj,ht⟩ (hQ a w hC hq)
 intro f
 induction f with
 | zero =>
  intro L listed a w hC hs hL hag ht hw
  rw [Nat.zero_add]
  exact hend L listed a w hC hs hag ht (hfull L hL hw.1) hw.2
 | succ f ih =>
  intro L listed a w hC hs hL hag ht hw
  obtain ⟨hw0,hw1⟩:=hw
  by_cases hr:Region.ready .any (l.take n).toArray L=[]
  ·-- the head is over though rounds are left
   have h2:=hend L listed a w hC hs hag ht (hfull L hL hr) (hw0 hr)
   have:∀ (g k:Nat) (listed:Array Bool) (a:Act) (w:World),wpAny P .any l.toArray Q g listed a w → wpAny P .any l.toArray Q (g + k) listed a w:=by
    intro g k
    induction g with
    | zero =>
     intro listed a w hh
     cases k with
     | zero=>exact hh
     | succ k=>exact ⟨fun _=>hh.2,fun i hi=>by rw [hh.1] at hi;cases hi⟩
    | succ g ihg =>
     intro listed a w hh
     rw [show g + 1 + k=(g + k) + 1 by omega]
     exact ⟨hh.1,fun i hi=>wpOp_mono (fun a' w' h'=>ihg _ a' w' h') (hh.2 i hi)⟩
   rw [Nat.add_comm (f + 1)]
   exact this _ _ _ _ _ h2
  ·rw [show f + 1 + (l.length - n)=(f + (l.length - n)) + 1 by omega]
   have hhead:∀ i,i ∈ Region.ready .any l.toArray listed → i < n:=by
    intro i hi
    rcases Nat.lt_or_ge i n with h1 | h1
    ·exact h1
    ·exfalso
     have hall:=htail L listed hag i h1 hi
     refine hr (List.eq_nil_iff_forall_not_mem.2 fun j hj=>?_)
     obtain ⟨h0,o,ho,_⟩:=mem_ready.1 hj
     have hjn:j < n:=by
      have:=(Array.getElem?_eq_some_iff.1 ho).1
      simp at this;omega
     have:=ZZ (hall j hjn)
     rw [this] at h0;cases h0
   refine ⟨fun h0=>?_,fun i hi=>?_⟩
   ·exfalso
    refine hr (List.eq_nil_iff_forall_not_mem.2 fun j hj=>?_)
    have hjn:j < n:=by
     obtain ⟨_,o,ho,_⟩:=mem_ready.1 hj
     have:=(Array.getElem?_eq_some_iff.1 ho).1
     simp at this;omega
    have:=(hsame L listed hag j hjn).2 hj
    rw [h0] at this;cases this
   ·have hin:=hhead i hi
    have hq:=hw1 i ((hsame L listed hag i hin).1 hi)
    have hq2:qOp P l.toArray C i (wpAnyQ P .any (l.take n).toArray C Qa f (L.setIfInBounds i true)) a:=by
     unfold qOp at hq ⊢
     rw [hget i hin] at hq
     simp only [List.getElem?_toArray]
     cases ho:l[i]? with
     | none=>simp only [ho] at hq;exact hq
     | some o =>
      simp only [ho] at hq ⊢
      have hy:Region.wanted o (yielded l.toArray a.tmps)=Region.wanted o (yielded (l.take n).toArray a.tmps):=by
       unfold Region.wanted
       cases hg:o.guard with
       | none=>rfl
       | some p =>
        obtain ⟨g,b⟩:=p
        have hgn:=zdF h ho hg
        unfold yielded
        simp only [List.getElem?_toArray]
        rw [List.getElem?_take_of_lt (by omega)]
      rw [hy];exact hq
    refine wpOp_of_qOp hC (fun a' w' hw' h'=>ih (L.setIfInBounds i true) (listed.setIfInBounds i true) a' w' hw' (by simp [hs]) (by simp [hL]) (fun j hj d=>?_) (fun j hj hj2=>?_) h') hq2
    ·by_cases hij:i=j
     ·subst hij
      rw [wF (by omega),wF (by omega)]
     ·rw [getD_set_ne d hij,getD_set_ne d hij];exact hag j hj d
    ·rw [getD_set_ne true (by omega)];exact ht j hj hj2
theorem x8 {id:Nat} {Q:Exit → Act → World → Prop} {a:Act} {w:World} (n:Nat) (C:World → Prop) (hm:P.follows .mixedOrders=true)
  (hB:Region.lexB .any (l.take n).toArray=true) (hT:xa l n=true) (hC:C { w with drawn:=w.drawn + 1 })
  (h:wpQuiet P (l.take n).toArray C (fun a'=>∀ w',C w' → wpList P l.toArray Q (l.drop n) a' w') (l.take n) a):(Code.region id l.toArray true).wp P Q a w:=by
 have hn:=zgI hT
 refine wp_region_any hm ?_
 simp only [Region.lexB,Bool.and_eq_true] at hB
 have h1:=wpAnyQ_lex (C:=C) (md:=.any) hB.1 (l.take n) 0 (Array.replicate (l.take n).toArray.size false) a (by simp) (by simpa using hB.2) (by simpa using h)
 have h2:=ZY hT (Q:=Q) (C:=C) (Qa:=fun a'=>∀ w',C w' → wpList P l.toArray Q (l.drop n) a' w') (fun a w hc hq=>hq w hc) (l.take n).length (Array.replicate (l.take n).toArray.size false)
  (Array.replicate l.toArray.size false) a { w with drawn:=w.drawn + 1 } hC (by simp) (by simp;omega) (fun j hj d=>by simp [Array.getElem?_replicate];rw [if_pos (by omega),if_pos (by omega)])
  (fun j _ hj=>by simp [hj]) h1
 have e:(l.take n).length + (l.length - n)=l.toArray.size:=by simp;omega
 rwa [e] at h2
end
def Z4 (w:World):Type:={ W:World // Below w.heap.size w W }
instance (w:World):Nonempty (Z4 w):=⟨⟨w,Below.refl _ _⟩⟩
def kG (w:World) (u:Z4 w):World:=u.1
theorem qO (w:World) (u:Z4 w):Below w.heap.size w (kG w u):=u.2
@[go_sem] theorem zkL (w:World) (u:Z4 w) (b o:Nat) (h:b < w.heap.size):(kG w u).cell? ⟨b,o,none⟩=w.cell? ⟨b,o,none⟩:=u.2.cell (p:=⟨b,o,none⟩) h
@[go_sem] theorem zhX (w:World) (u:Z4 w) (b o:Nat) (h:b < w.heap.size):(kG w u).frozen? ⟨b,o,none⟩=w.frozen? ⟨b,o,none⟩:=u.2.frozen (p:=⟨b,o,none⟩) h
theorem KB (w:World):∃ u,({ w with drawn:=w.drawn + 1 }:World)=kG w u:=⟨⟨{ w with drawn:=w.drawn + 1 },⟨rfl,rfl,rfl,Nat.le_refl _,fun _ _=>rfl⟩⟩,rfl⟩
theorem Calls.kQ {P:Program} {f:FuncId} {args:Array Value} {w:World} {u:Z4 w} {v:Value} {R:Ending → World → Prop}
  (h:Calls P f args (kG w u) R) (hR:∀ e W,R e W → e = .returned v ∧ Below (kG w u).heap.size (kG w u) W):Calls P f args (kG w u) fun e W=>e = .returned v ∧ ∃ u',W=kG w u':=
 h.mono fun e W hr=>by
  obtain ⟨he,hb⟩:=hR e W hr
  exact ⟨he,⟨W,u.2.trans (hb.mono u.2.size)⟩,rfl⟩
theorem qq {P:Program} {l:List Oper} {id:Nat} {Q:Exit → Act → World → Prop} {a:Act} {w:World} (n:Nat) (hm:P.follows .mixedOrders=true)
  (hB:Region.lexB .any (l.take n).toArray=true) (hT:xa l n=true)
  (h:wpQuiet P (l.take n).toArray (fun W=>∃ u,W=kG w u) (fun a'=>∀ w',(∃ u,w'=kG w u) → wpList P l.toArray Q (l.drop n) a' w') (l.take n) a):(Code.region id l.toArray true).wp P Q a w:=
 x8 n (fun W=>∃ u,W=kG w u) hm hB hT (KB w) h
theorem Kb {P:Program} {l:List Oper} {id:Nat} {Q:Exit → Act → World → Prop} {a:Act} {w:World} (hm:P.follows .mixedOrders=true)
  (hB:Region.lexB .any l.toArray=true)
  (h:wpQuiet P l.toArray (fun W=>∃ u,W=kG w u) (fun a'=>∀ w',(∃ u,w'=kG w u) → Q .normal a' w') l a):(Code.region id l.toArray true).wp P Q a w:=
 wp_region_quiet (C:=fun W=>∃ u,W=kG w u) hm hB (KB w) (by simpa using h)
theorem yo {B:Nat} {a w:World} (h:Below B a w) (n:Nat):Below B a (w.drewN n):=⟨h.os,h.tape,h.output,h.size,h.block⟩
theorem Qb {w:World} {n:Nat} {a:Addr} {v:Value} (h:w.cell? a=some v):(w.drewN n).cell? a=some v:=h
end Go.Proofs.YtifdakibkadfiaaGreatDoor
end
