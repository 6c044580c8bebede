import Derived.Test.YtifdakibkadfiaaGreatDoorMe5
import Derived.Test.YtifdakibkadfiaaGreatDoorMe2
set_option linter.all false
set_option maxRecDepth 100000
set_option maxHeartbeats 8000000
section
open Go Go.Proofs Go.RowKit
namespace Go.Ev
open Go.Proofs.YtifdakibkadfiaaGreatDoor (GV zx VS zY kD)
def unG (r:GV × Int):Val × Int:=(ofG r.1,r.2)
def zed (v:Val):Val × Int:=unG (Go.Proofs.YtifdakibkadfiaaGreatDoor.k9 [45] (GV.num 0) (toG v))
def zN (op:ByteArray) (a b:Val):Val × Int:=unG (Go.Proofs.YtifdakibkadfiaaGreatDoor.k9 op.toList (toG a) (toG b))
def VK (a b:Val):Val × Int:=unG (Go.Proofs.YtifdakibkadfiaaGreatDoor.Xi (toG a) (toG b))
def ve (name:ByteArray) (vs:List Val):Val × Int:=unG (Go.Proofs.YtifdakibkadfiaaGreatDoor.VJ name (vs.map toG))
def zhs (f:Val → Val × Int):List Val → Val × Int | [x]=>f x | _=>(zeroV,1)
def yF (f:Val → Val → Val × Int):List Val → Val × Int | [x,y]=>f x y | _=>(zeroV,1)
def zjA (f:Val → Val → Val → Val × Int):List Val → Val × Int | [x,y,z]=>f x y z | _=>(zeroV,1)
def inF:List Val → Val × Int | v :: l=>inS v l | []=>(zeroV,1)
theorem zi2 (v:Val) (hv:I64 v.i):Good Tryz.prog 133 [v.av] [] (qY (zed v).1 (zed v).2) [] ∧ kD [toG v] (Go.Proofs.YtifdakibkadfiaaGreatDoor.k9 [45] (GV.num 0) (toG v)):=
 ⟨Good.zkG (r:=Go.Proofs.YtifdakibkadfiaaGreatDoor.k9 [45] (GV.num 0) (toG v)) (enters_of Tryz.func133 (by kernel_rfl) rfl) (fun w N ρ vs H hl hr=>by
  obtain ⟨x,rfl⟩:∃ x,vs=[x]:=by match vs,hl with | [x],_=>exact ⟨x,rfl⟩
  have h0:=yb (hr 0 (by simp) (by simp))
  simp only [List.getElem_cons_zero] at h0
  subst h0
  exact Go.Proofs.YtifdakibkadfiaaGreatDoor.xN (toG v) w hv),Go.Proofs.YtifdakibkadfiaaGreatDoor.j0 _ _ _ _ hv⟩
theorem wx (op:ByteArray) (a b:Val) (ha:I64 a.i) (hb:I64 b.i):Good Tryz.prog 78 [cS op,a.av,b.av] [] (qY (zN op a b).1 (zN op a b).2) [] ∧ kD [toG a,toG b] (Go.Proofs.YtifdakibkadfiaaGreatDoor.k9 op.toList (toG a) (toG b)):=
 ⟨Good.zkG (r:=Go.Proofs.YtifdakibkadfiaaGreatDoor.k9 op.toList (toG a) (toG b)) (enters_of Tryz.func78 (by kernel_rfl) rfl) (fun w N ρ vs H hl hr=>by
  obtain ⟨x,y,z,rfl⟩:∃ x y z,vs=[x,y,z]:=by match vs,hl with | [x,y,z],_=>exact ⟨x,y,z,rfl⟩
  have h0:=Jz (hr 0 (by simp) (by simp))
  have h1:=yb (hr 1 (by simp) (by simp))
  have h2:=yb (hr 2 (by simp) (by simp))
  simp only [List.getElem_cons_zero,List.getElem_cons_succ] at h0 h1 h2
  subst h0 h1 h2
  exact Go.Proofs.YtifdakibkadfiaaGreatDoor.jI op (toG a) (toG b) w ha hb),Go.Proofs.YtifdakibkadfiaaGreatDoor.j0 _ _ _ _ hb⟩
theorem zhI (a b:Val) (ha:I64 a.i) (hb:I64 b.i) (hs:a.s.size + b.s.size ≤ 9223372036854775807):Good Tryz.prog 141 [a.av,b.av] [] (qY (VK a b).1 (VK a b).2) [] ∧ vk (a.s.size + b.s.size) (VK a b):=by
 refine ⟨Good.zkG (enters_of Tryz.func141 (by kernel_rfl) rfl) (fun w N ρ vs H hl hr=>by
  obtain ⟨x,y,rfl⟩:∃ x y,vs=[x,y]:=by match vs,hl with | [x,y],_=>exact ⟨x,y,rfl⟩
  have h0:=yb (hr 0 (by simp) (by simp))
  have h1:=yb (hr 1 (by simp) (by simp))
  simp only [List.getElem_cons_zero,List.getElem_cons_succ] at h0 h1
  subst h0 h1
  exact Go.Proofs.YtifdakibkadfiaaGreatDoor.yq (toG a) (toG b) w ha hb hs),?_⟩
 have none_f:∀ e:Int,vk (a.s.size + b.s.size) (unG (GV.none,e)):=fun e=>⟨by simp [unG,ofG,GV.none,I64],by simp [unG,ofG,GV.none];exact Nat.zero_le _,fun _=>rfl⟩
 unfold VK Go.Proofs.YtifdakibkadfiaaGreatDoor.Xi
 split
 ·exact none_f 1
 ·rename_i h1
  split
  ·exact none_f 20
  ·rename_i h2
   split
   ·exact none_f 0
   ·rename_i h3
    split
    ·exact none_f 20
    ·refine ⟨by simp [I64,unG,ofG],by simp [toG,unG,ofG,ByteArray.size_append],fun _=>?_⟩
     have ok:(toG a).ok=true:=by revert h1;cases (toG a).ok <;> simp
     have hk:=Go.Proofs.YtifdakibkadfiaaGreatDoor.QS ok
     unfold Go.Proofs.YtifdakibkadfiaaGreatDoor.vl at h2
     simp only [Bool.or_eq_true,beq_iff_eq,not_or] at h2 h3
     have:(toG a).k=3 ∨ (toG a).k=4:=by omega
     rw [← yd]
     show (⟨(toG a).k,0,_⟩:GV).ok=true
     rcases this with h | h <;> rw [h] <;> simp [GV.ok]
theorem xn (name:ByteArray) (l:List Val) (hb:l.length ≤ 281474976710656) (hi:∀ x,x ∈ l → I64 x.i) (hs:∀ x,x ∈ l → x.s.size ≤ 10000000):Good Tryz.prog 86 [cS name,.c (qk l)] [] (qY (ve name l).1 (ve name l).2) [] ∧ kD (l.map toG) (Go.Proofs.YtifdakibkadfiaaGreatDoor.VJ name (l.map toG)):=by
 obtain ⟨hA,hF⟩:=Go.Proofs.YtifdakibkadfiaaGreatDoor.zkd name (l.map toG) (fun x hx=>by
  obtain ⟨v,hv,rfl⟩:=List.mem_map.1 hx
  exact hi v hv) (fun x hx=>by
  obtain ⟨v,hv,rfl⟩:=List.mem_map.1 hx
  exact hs v hv)
 refine ⟨Good.zkG (r:=Go.Proofs.YtifdakibkadfiaaGreatDoor.VJ name (l.map toG)) (enters_of Tryz.func86 (by kernel_rfl) rfl) (fun w N ρ vs H hl hr=>?_),hF⟩
 obtain ⟨x,y,rfl⟩:∃ x y,vs=[x,y]:=by match vs,hl with | [x,y],_=>exact ⟨x,y,rfl⟩
 have h0:=Jz (hr 0 (by simp) (by simp))
 have h1:=zkr (hr 1 (by simp) (by simp)) hb
 simp only [List.getElem_cons_zero,List.getElem_cons_succ] at h0 h1
 subst h0
 exact hA w y h1 (zcy H.glob)
def zkR (l:List UInt8) (vs:List Val):Val × Int:=
 if l=[110,101,103] then (zhs zed) vs
 else if l=[110,111,116] then (zhs zec) vs
 else if l=[105,115,110,117,108,108] then (zhs fun x=>(zZ (x.k == 0),0)) vs
 else if l=[110,111,116,110,117,108,108] then (zhs fun x=>(zZ (!(x.k == 0)),0)) vs
 else if l=[97,110,100] then (yF fun x y=>lgS 0 [x,y]) vs
 else if l=[111,114] then (yF fun x y=>lgS 1 [x,y]) vs
 else if l=[124,124] then (yF VK) vs
 else if l=[108,105,107,101] then (yF yT) vs
 else if l=[61] then (yF (qX ⟨#[61]⟩)) vs
 else if l=[60,62] then (yF (qX ⟨#[60,62]⟩)) vs
 else if l=[60] then (yF (qX ⟨#[60]⟩)) vs
 else if l=[60,61] then (yF (qX ⟨#[60,61]⟩)) vs
 else if l=[62] then (yF (qX ⟨#[62]⟩)) vs
 else if l=[62,61] then (yF (qX ⟨#[62,61]⟩)) vs
 else if l=[43] then (yF (zN ⟨#[43]⟩)) vs
 else if l=[45] then (yF (zN ⟨#[45]⟩)) vs
 else if l=[42] then (yF (zN ⟨#[42]⟩)) vs
 else if l=[47] then (yF (zN ⟨#[47]⟩)) vs
 else if l=[37] then (yF (zN ⟨#[37]⟩)) vs
 else if l=[98,101,116,119,101,101,110] then (zjA k6) vs
 else if l=[105,110] then (inF) vs
 else (zeroV,1)
def KK (op:ByteArray) (vs:List Val):Val × Int:=zkR op.toList vs
theorem bsl (l:List UInt8):(⟨l.toArray⟩:ByteArray).toList=l:=Go.ByteArray.toList_eq _
theorem wv (l:List UInt8) (vs:List Val):KK ⟨l.toArray⟩ vs=zkR l vs:=by unfold KK;rw [Go.ByteArray.toList_eq]
def Is (op:ByteArray) (vs:List Val) (p:Val × Int):Prop:=vk (100000 + zjn vs) p ∧ zlr op vs p
theorem xj {op:ByteArray} {vs:List Val} {lo hi:Int} {fv:CV} {is:Bool} (W:Good Tryz.prog 87 [cS op] [] (.tup [.agg [cI lo,cI hi,.c fv],cB is]) []) (h:is=false ∨ (vs.length:Int) < lo ∨ hi < (vs.length:Int)):Is op vs (zeroV,1):=
 ⟨qL _ 1,.inl ⟨lo,hi,fv,is,W,h,rfl⟩⟩
theorem za7 {op:ByteArray} {vs:List Val} {g:FuncId} {caps:List CV} (W:Good Tryz.prog 87 [cS op] [] (.tup [.agg [cI 1,cI 1,.c (.fn 130 [.pt [.fn g caps]])],cB true]) []) (f:Val → Val × Int)
  (G:∀ x,x ∈ vs → vk (100000 + x.s.size) (f x) ∧ Good Tryz.prog g (x.av :: caps.map opn) [] (qY (f x).1 (f x).2) []):Is op vs (zhs f vs):=by
 match vs,G with
 | [],_=>exact xj W (.inr (.inl (by simp)))
 | [x],G =>
  obtain ⟨h1,h2⟩:=G x (by simp)
  exact ⟨⟨h1.i64,by have:=h1.size;show (f x).1.s.size ≤ _;simpa [zjn] using this,h1.ok⟩,.inr ⟨1,1,_,_,W,by simp,by simp,ze6 g caps [x] x rfl h2⟩⟩
 | x :: y :: l,_=>exact xj W (.inr (.inr (by simp only [List.length_cons];omega)))
theorem jt {op:ByteArray} {vs:List Val} {g:FuncId} {caps:List CV} (W:Good Tryz.prog 87 [cS op] [] (.tup [.agg [cI 2,cI 2,.c (.fn 132 [.pt [.fn g caps]])],cB true]) []) (f:Val → Val → Val × Int)
  (G:∀ x y,x ∈ vs → y ∈ vs → vk (100000 + (x.s.size + y.s.size)) (f x y) ∧ Good Tryz.prog g (x.av :: y.av :: caps.map opn) [] (qY (f x y).1 (f x y).2) []):Is op vs (yF f vs):=by
 match vs,G with
 | [],_=>exact xj W (.inr (.inl (by simp)))
 | [x],_=>exact xj W (.inr (.inl (by simp)))
 | [x,y],G =>
  obtain ⟨h1,h2⟩:=G x y (by simp) (by simp)
  exact ⟨⟨h1.i64,by have:=h1.size;show (f x y).1.s.size ≤ _;simpa [zjn] using this,h1.ok⟩,.inr ⟨2,2,_,_,W,by simp,by simp,zfe g caps [x,y] x y rfl rfl h2⟩⟩
 | x :: y :: z :: l,_=>exact xj W (.inr (.inr (by simp only [List.length_cons];omega)))
theorem zk3 (op:ByteArray) (vs:List Val) (hb:vs.length ≤ 1000000) (hi:∀ x,x ∈ vs → I64 x.i) (hs:∀ x,x ∈ vs → x.s.size ≤ 10000000):Is op vs (KK op vs):=by
 by_cases c_neg:op.toList=(⟨#[110,101,103]⟩:ByteArray).toList
 ·obtain rfl:=Go.Proofs.YtifdakibkadfiaaGreatDoor.zO c_neg
  rw [(wv [110,101,103] vs).trans (show _=(zhs zed) vs from rfl)]
  exact za7 zeU _ fun x hx=>by
   obtain ⟨h1,h2⟩:=zi2 x (hi x hx)
   exact ⟨vk.of h2 (by omega) (fun y hy=>by rw [List.mem_singleton.1 hy];exact Nat.le_add_left _ _),h1⟩
 by_cases c_not:op.toList=(⟨#[110,111,116]⟩:ByteArray).toList
 ·obtain rfl:=Go.Proofs.YtifdakibkadfiaaGreatDoor.zO c_not
  rw [(wv [110,111,116] vs).trans (show _=(zhs zec) vs from rfl)]
  exact za7 zgG _ fun x hx=>⟨ziM x _ (hi x hx) (Nat.le_add_left _ _),zel x (hi x hx)⟩
 by_cases c_isnull:op.toList=(⟨#[105,115,110,117,108,108]⟩:ByteArray).toList
 ·obtain rfl:=Go.Proofs.YtifdakibkadfiaaGreatDoor.zO c_isnull
  rw [(wv [105,115,110,117,108,108] vs).trans (show _=(zhs fun x=>(zZ (x.k == 0),0)) vs from rfl)]
  exact za7 WX _ fun x hx=>⟨j9 _ _,by
   have h:=Vk x yG
   rw [beq_self_eq_true,show ∀ b:Bool,(b == true)=b from fun b=>by cases b <;> rfl] at h
   exact h⟩
 by_cases c_notnull:op.toList=(⟨#[110,111,116,110,117,108,108]⟩:ByteArray).toList
 ·obtain rfl:=Go.Proofs.YtifdakibkadfiaaGreatDoor.zO c_notnull
  rw [(wv [110,111,116,110,117,108,108] vs).trans (show _=(zhs fun x=>(zZ (!(x.k == 0)),0)) vs from rfl)]
  exact za7 JL _ fun x hx=>⟨j9 _ _,by
   have h:=Vk x ⟨#[110,111,116,110,117,108,108]⟩
   have e:((⟨#[110,111,116,110,117,108,108]⟩:ByteArray).toList == yG.toList)=false:=(zF [110,111,116,110,117,108,108] [105,115,110,117,108,108]).trans rfl
   rw [e,show ∀ b:Bool,(b == false) = !b from fun b=>by cases b <;> rfl] at h
   exact h⟩
 by_cases c_and:op.toList=(⟨#[97,110,100]⟩:ByteArray).toList
 ·obtain rfl:=Go.Proofs.YtifdakibkadfiaaGreatDoor.zO c_and
  rw [(wv [97,110,100] vs).trans (show _=(yF fun x y=>lgS 0 [x,y]) vs from rfl)]
  exact jt zgA _ fun x y hx hy=>⟨y9 0 _ [x,y] (fun z hz=>by
   simp only [List.mem_cons,List.not_mem_nil,or_false] at hz
   rcases hz with rfl | rfl
   ·exact hi _ hx
   ·exact hi _ hy) (fun z hz=>by
   simp only [List.mem_cons,List.not_mem_nil,or_false] at hz
   rcases hz with rfl | rfl <;> omega),za3 x y (hi x hx) (hi y hy)⟩
 by_cases c_or:op.toList=(⟨#[111,114]⟩:ByteArray).toList
 ·obtain rfl:=Go.Proofs.YtifdakibkadfiaaGreatDoor.zO c_or
  rw [(wv [111,114] vs).trans (show _=(yF fun x y=>lgS 1 [x,y]) vs from rfl)]
  exact jt ziF _ fun x y hx hy=>⟨y9 1 _ [x,y] (fun z hz=>by
   simp only [List.mem_cons,List.not_mem_nil,or_false] at hz
   rcases hz with rfl | rfl
   ·exact hi _ hx
   ·exact hi _ hy) (fun z hz=>by
   simp only [List.mem_cons,List.not_mem_nil,or_false] at hz
   rcases hz with rfl | rfl <;> omega),YI x y (hi x hx) (hi y hy)⟩
 by_cases c_cat:op.toList=(⟨#[124,124]⟩:ByteArray).toList
 ·obtain rfl:=Go.Proofs.YtifdakibkadfiaaGreatDoor.zO c_cat
  rw [(wv [124,124] vs).trans (show _=(yF VK) vs from rfl)]
  exact jt zgM _ fun x y hx hy=>by
   obtain ⟨h1,h2⟩:=zhI x y (hi x hx) (hi y hy) (by have:=hs x hx;have:=hs y hy;omega)
   exact ⟨⟨h2.i64,Nat.le_trans h2.size (Nat.le_add_left _ _),h2.ok⟩,h1⟩
 by_cases c_like:op.toList=(⟨#[108,105,107,101]⟩:ByteArray).toList
 ·obtain rfl:=Go.Proofs.YtifdakibkadfiaaGreatDoor.zO c_like
  rw [(wv [108,105,107,101] vs).trans (show _=(yF yT) vs from rfl)]
  exact jt zdm _ fun x y hx hy=>⟨zdJ x y _,zd8 x y (by have:=hs x hx;omega)⟩
 by_cases c_eq:op.toList=(⟨#[61]⟩:ByteArray).toList
 ·obtain rfl:=Go.Proofs.YtifdakibkadfiaaGreatDoor.zO c_eq
  rw [(wv [61] vs).trans (show _=(yF (qX ⟨#[61]⟩)) vs from rfl)]
  exact jt ziR _ fun x y hx hy=>⟨kz _ x y _,vr _ x y (hi x hx) (hi y hy)⟩
 by_cases c_ne:op.toList=(⟨#[60,62]⟩:ByteArray).toList
 ·obtain rfl:=Go.Proofs.YtifdakibkadfiaaGreatDoor.zO c_ne
  rw [(wv [60,62] vs).trans (show _=(yF (qX ⟨#[60,62]⟩)) vs from rfl)]
  exact jt ziN _ fun x y hx hy=>⟨kz _ x y _,vr _ x y (hi x hx) (hi y hy)⟩
 by_cases c_lt:op.toList=(⟨#[60]⟩:ByteArray).toList
 ·obtain rfl:=Go.Proofs.YtifdakibkadfiaaGreatDoor.zO c_lt
  rw [(wv [60] vs).trans (show _=(yF (qX ⟨#[60]⟩)) vs from rfl)]
  exact jt zi8 _ fun x y hx hy=>⟨kz _ x y _,vr _ x y (hi x hx) (hi y hy)⟩
 by_cases c_le:op.toList=(⟨#[60,61]⟩:ByteArray).toList
 ·obtain rfl:=Go.Proofs.YtifdakibkadfiaaGreatDoor.zO c_le
  rw [(wv [60,61] vs).trans (show _=(yF (qX ⟨#[60,61]⟩)) vs from rfl)]
  exact jt zja _ fun x y hx hy=>⟨kz _ x y _,vr _ x y (hi x hx) (hi y hy)⟩
 by_cases c_gt:op.toList=(⟨#[62]⟩:ByteArray).toList
 ·obtain rfl:=Go.Proofs.YtifdakibkadfiaaGreatDoor.zO c_gt
  rw [(wv [62] vs).trans (show _=(yF (qX ⟨#[62]⟩)) vs from rfl)]
  exact jt zhH _ fun x y hx hy=>⟨kz _ x y _,vr _ x y (hi x hx) (hi y hy)⟩
 by_cases c_ge:op.toList=(⟨#[62,61]⟩:ByteArray).toList
 ·obtain rfl:=Go.Proofs.YtifdakibkadfiaaGreatDoor.zO c_ge
  rw [(wv [62,61] vs).trans (show _=(yF (qX ⟨#[62,61]⟩)) vs from rfl)]
  exact jt zh8 _ fun x y hx hy=>⟨kz _ x y _,vr _ x y (hi x hx) (hi y hy)⟩
 by_cases c_add:op.toList=(⟨#[43]⟩:ByteArray).toList
 ·obtain rfl:=Go.Proofs.YtifdakibkadfiaaGreatDoor.zO c_add
  rw [(wv [43] vs).trans (show _=(yF (zN ⟨#[43]⟩)) vs from rfl)]
  exact jt zgD _ fun x y hx hy=>by
   obtain ⟨h1,h2⟩:=wx ⟨#[43]⟩ x y (hi x hx) (hi y hy)
   exact ⟨vk.of h2 (by omega) (fun z hz=>by
    simp only [List.mem_cons,List.not_mem_nil,or_false] at hz
    rcases hz with rfl | rfl
    ·show x.s.size ≤ _;omega
    ·show y.s.size ≤ _;omega),jo _ x y h1⟩
 by_cases c_sub:op.toList=(⟨#[45]⟩:ByteArray).toList
 ·obtain rfl:=Go.Proofs.YtifdakibkadfiaaGreatDoor.zO c_sub
  rw [(wv [45] vs).trans (show _=(yF (zN ⟨#[45]⟩)) vs from rfl)]
  exact jt zfl _ fun x y hx hy=>by
   obtain ⟨h1,h2⟩:=wx ⟨#[45]⟩ x y (hi x hx) (hi y hy)
   exact ⟨vk.of h2 (by omega) (fun z hz=>by
    simp only [List.mem_cons,List.not_mem_nil,or_false] at hz
    rcases hz with rfl | rfl
    ·show x.s.size ≤ _;omega
    ·show y.s.size ≤ _;omega),jo _ x y h1⟩
 by_cases c_mul:op.toList=(⟨#[42]⟩:ByteArray).toList
 ·obtain rfl:=Go.Proofs.YtifdakibkadfiaaGreatDoor.zO c_mul
  rw [(wv [42] vs).trans (show _=(yF (zN ⟨#[42]⟩)) vs from rfl)]
  exact jt zf5 _ fun x y hx hy=>by
   obtain ⟨h1,h2⟩:=wx ⟨#[42]⟩ x y (hi x hx) (hi y hy)
   exact ⟨vk.of h2 (by omega) (fun z hz=>by
    simp only [List.mem_cons,List.not_mem_nil,or_false] at hz
    rcases hz with rfl | rfl
    ·show x.s.size ≤ _;omega
    ·show y.s.size ≤ _;omega),jo _ x y h1⟩
 by_cases c_div:op.toList=(⟨#[47]⟩:ByteArray).toList
 ·obtain rfl:=Go.Proofs.YtifdakibkadfiaaGreatDoor.zO c_div
  rw [(wv [47] vs).trans (show _=(yF (zN ⟨#[47]⟩)) vs from rfl)]
  exact jt zfC _ fun x y hx hy=>by
   obtain ⟨h1,h2⟩:=wx ⟨#[47]⟩ x y (hi x hx) (hi y hy)
   exact ⟨vk.of h2 (by omega) (fun z hz=>by
    simp only [List.mem_cons,List.not_mem_nil,or_false] at hz
    rcases hz with rfl | rfl
    ·show x.s.size ≤ _;omega
    ·show y.s.size ≤ _;omega),jo _ x y h1⟩
 by_cases c_rem:op.toList=(⟨#[37]⟩:ByteArray).toList
 ·obtain rfl:=Go.Proofs.YtifdakibkadfiaaGreatDoor.zO c_rem
  rw [(wv [37] vs).trans (show _=(yF (zN ⟨#[37]⟩)) vs from rfl)]
  exact jt zgd _ fun x y hx hy=>by
   obtain ⟨h1,h2⟩:=wx ⟨#[37]⟩ x y (hi x hx) (hi y hy)
   exact ⟨vk.of h2 (by omega) (fun z hz=>by
    simp only [List.mem_cons,List.not_mem_nil,or_false] at hz
    rcases hz with rfl | rfl
    ·show x.s.size ≤ _;omega
    ·show y.s.size ≤ _;omega),jo _ x y h1⟩
 by_cases c_between:op.toList=(⟨#[98,101,116,119,101,101,110]⟩:ByteArray).toList
 ·obtain rfl:=Go.Proofs.YtifdakibkadfiaaGreatDoor.zO c_between
  rw [(wv [98,101,116,119,101,101,110] vs).trans (show _=(zjA k6) vs from rfl)]
  match vs,hi with
  | [a,b,c],hi=>exact ⟨Xh a b c _,.inr ⟨3,3,_,_,kY,by simp,by simp,WA a b c (hi a (by simp)) (hi b (by simp)) (hi c (by simp))⟩⟩
  | [],_=>exact xj kY (.inr (.inl (by simp)))
  | [a],_=>exact xj kY (.inr (.inl (by simp)))
  | [a,b],_=>exact xj kY (.inr (.inl (by simp)))
  | a :: b :: c :: d :: l,_=>exact xj kY (.inr (.inr (by simp only [List.length_cons];omega)))
 by_cases c_in:op.toList=(⟨#[105,110]⟩:ByteArray).toList
 ·obtain rfl:=Go.Proofs.YtifdakibkadfiaaGreatDoor.zO c_in
  rw [(wv [105,110] vs).trans (show _=(inF) vs from rfl)]
  match vs,hi,hb with
  | v :: l,hi,hb=>exact ⟨zkA v l _,.inr ⟨1,9223372036854775807,_,_,za6,by simp only [List.length_cons];omega,by simp only [List.length_cons] at hb ⊢;omega,zaV v l (hi v (by simp)) (fun x hx=>hi x (by simp [hx])) (by simp only [List.length_cons] at hb;omega)⟩⟩
  | [],_,_=>exact xj za6 (.inr (.inl (by simp)))
 have e:KK op vs=(zeroV,1):=by
  unfold KK zkR
  rw [if_neg (fun h=>c_neg (h.trans (bsl [110,101,103]).symm))]
  rw [if_neg (fun h=>c_not (h.trans (bsl [110,111,116]).symm))]
  rw [if_neg (fun h=>c_isnull (h.trans (bsl [105,115,110,117,108,108]).symm))]
  rw [if_neg (fun h=>c_notnull (h.trans (bsl [110,111,116,110,117,108,108]).symm))]
  rw [if_neg (fun h=>c_and (h.trans (bsl [97,110,100]).symm))]
  rw [if_neg (fun h=>c_or (h.trans (bsl [111,114]).symm))]
  rw [if_neg (fun h=>c_cat (h.trans (bsl [124,124]).symm))]
  rw [if_neg (fun h=>c_like (h.trans (bsl [108,105,107,101]).symm))]
  rw [if_neg (fun h=>c_eq (h.trans (bsl [61]).symm))]
  rw [if_neg (fun h=>c_ne (h.trans (bsl [60,62]).symm))]
  rw [if_neg (fun h=>c_lt (h.trans (bsl [60]).symm))]
  rw [if_neg (fun h=>c_le (h.trans (bsl [60,61]).symm))]
  rw [if_neg (fun h=>c_gt (h.trans (bsl [62]).symm))]
  rw [if_neg (fun h=>c_ge (h.trans (bsl [62,61]).symm))]
  rw [if_neg (fun h=>c_add (h.trans (bsl [43]).symm))]
  rw [if_neg (fun h=>c_sub (h.trans (bsl [45]).symm))]
  rw [if_neg (fun h=>c_mul (h.trans (bsl [42]).symm))]
  rw [if_neg (fun h=>c_div (h.trans (bsl [47]).symm))]
  rw [if_neg (fun h=>c_rem (h.trans (bsl [37]).symm))]
  rw [if_neg (fun h=>c_between (h.trans (bsl [98,101,116,119,101,101,110]).symm))]
  rw [if_neg (fun h=>c_in (h.trans (bsl [105,110]).symm))]
 rw [e]
 refine xj (zcT op fun x hx=>?_) (.inl rfl)
 unfold zD at hx
 simp only [List.mem_cons,List.not_mem_nil,or_false] at hx
 rcases hx with rfl | rfl | rfl | rfl | rfl | rfl | rfl | rfl | rfl | rfl | rfl | rfl | rfl | rfl | rfl | rfl | rfl | rfl | rfl | rfl | rfl
 ·exact beq_eq_false_iff_ne.2 c_neg
 ·exact beq_eq_false_iff_ne.2 c_not
 ·exact beq_eq_false_iff_ne.2 c_isnull
 ·exact beq_eq_false_iff_ne.2 c_notnull
 ·exact beq_eq_false_iff_ne.2 c_and
 ·exact beq_eq_false_iff_ne.2 c_or
 ·exact beq_eq_false_iff_ne.2 c_cat
 ·exact beq_eq_false_iff_ne.2 c_like
 ·exact beq_eq_false_iff_ne.2 c_between
 ·exact beq_eq_false_iff_ne.2 c_in
 ·exact beq_eq_false_iff_ne.2 c_eq
 ·exact beq_eq_false_iff_ne.2 c_ne
 ·exact beq_eq_false_iff_ne.2 c_lt
 ·exact beq_eq_false_iff_ne.2 c_le
 ·exact beq_eq_false_iff_ne.2 c_gt
 ·exact beq_eq_false_iff_ne.2 c_ge
 ·exact beq_eq_false_iff_ne.2 c_add
 ·exact beq_eq_false_iff_ne.2 c_sub
 ·exact beq_eq_false_iff_ne.2 c_mul
 ·exact beq_eq_false_iff_ne.2 c_div
 ·exact beq_eq_false_iff_ne.2 c_rem
end Go.Ev
end
section
open Go Go.Proofs Go.RowKit
namespace Go.Ev
open Go.Proofs.YtifdakibkadfiaaGreatDoor (GV zx VS zY kD)
def atF (r:List Val) (v:Val):Val × Int:=match r[v.i.toNat]? with | some x=>(x,0) | none=>(zeroV,1)
mutual
def z7 (r:List Val):Expr → Val × Int
 | .mk op v t n l=>if op.toList == wz.toList then (v,0) else if op.toList == sAt.toList then atF r v
  else if (xc r l).2 ≠ 0 then (zeroV,(xc r l).2) else if op.toList == vS.toList then ve n (xc r l).1 else KK op (xc r l).1
def xc (r:List Val):List Expr → List Val × Int
 | []=>([],0)
 | x :: l=>if (z7 r x).2 ≠ 0 then ([],(z7 r x).2) else ((z7 r x).1 :: (xc r l).1,(xc r l).2)
end
theorem zbt (r:List Val) (e:Expr):z7 r e=if e.op.toList == wz.toList then (e.v,0) else if e.op.toList == sAt.toList then atF r e.v
  else if (xc r e.l).2 ≠ 0 then (zeroV,(xc r e.l).2) else if e.op.toList == vS.toList then ve e.name (xc r e.l).1 else KK e.op (xc r e.l).1:=by cases e;rw [z7];rfl
theorem Wr (r:List Val):∀ l:List Expr,(xc r l).2=0 → (xc r l).1=l.map (fun x=>(z7 r x).1) ∧ ∀ x,x ∈ l → (z7 r x).2=0
 | [],_=>⟨rfl,fun x hx=>by cases hx⟩
 | x :: l,h=>by
  rw [xc] at h ⊢
  by_cases hx:(z7 r x).2=0
  ·rw [if_neg (by simp [hx])] at h ⊢
   obtain ⟨h1,h2⟩:=Wr r l h
   refine ⟨by rw [h1];rfl,fun y hy=>?_⟩
   rcases List.mem_cons.1 hy with rfl | hy
   ·exact hx
   ·exact h2 y hy
  ·rw [if_pos hx] at h
   exact absurd h hx
theorem Q0 (r:List Val):∀ l:List Expr,(xc r l).2 ≠ 0 → ∃ (k:Nat) (x:Expr),l[k]?=some x ∧ (z7 r x).2=(xc r l).2 ∧ ∀ (j:Nat) y,j < k → l[j]?=some y → (z7 r y).2=0
 | [],h=>absurd rfl h
 | x :: l,h=>by
  rw [xc] at h ⊢
  by_cases hx:(z7 r x).2=0
  ·rw [if_neg (by simp [hx])] at h ⊢
   obtain ⟨k,y,h1,h2,h3⟩:=Q0 r l h
   refine ⟨k + 1,y,by simpa using h1,h2,fun j z hj hz=>?_⟩
   cases j with
   | zero=>simp at hz;rw [← hz];exact hx
   | succ j=>exact h3 j z (by omega) (by simpa using hz)
  ·rw [if_pos hx]
   exact ⟨0,x,rfl,rfl,fun j y hj=>absurd hj (Nat.not_lt_zero _)⟩
def zl2 (n:Nat) (e:Expr):Prop:=(e.op.toList == sAt.toList)=true → 0 ≤ e.v.i ∧ e.v.i < n
mutual
def wtE:Expr → Nat
 | .mk op v t n l=>if op.toList == wz.toList then v.s.size else if op.toList == sAt.toList then 100000 else 100000 + wtL l
def wtL:List Expr → Nat
 | []=>0
 | x :: l=>wtE x + wtL l
end
theorem ze9 (e:Expr):wtE e=if e.op.toList == wz.toList then e.v.s.size else if e.op.toList == sAt.toList then 100000 else 100000 + wtL e.l:=by cases e;rw [wtE];rfl
theorem zeK:∀ l:List Expr,wtL l=(l.map wtE).sum
 | []=>rfl
 | x :: l=>by rw [wtL,zeK l];rfl
theorem J4 {l:List Expr} {x:Expr} (h:x ∈ l):wtE x ≤ wtL l:=by
 induction l with
 | nil=>cases h
 | cons a l ih =>
  rw [wtL]
  rcases List.mem_cons.1 h with rfl | h
  ·omega
  ·have:=ih h;omega
def zkj (n:Nat) (e:Expr):Prop:=zl2 n e ∧ I64 e.v.i ∧ e.l.length ≤ 1000
def zki (e:Expr):Prop:=(e.op.toList == wz.toList)=true → e.v.ok=true
theorem zb8 {e:Expr} (h:(e.op.toList == wz.toList)=true):(e.op.toList == sAt.toList)=false:=by
 rw [eq_of_beq h];exact (zF [108,105,116] [97,116]).trans rfl
theorem WI (r:List Val) (hr:∀ v,v ∈ r → I64 v.i ∧ v.s.size ≤ 100000) (e:Expr) (hn:wtE e ≤ 9000000) (ha:Expr.All (zkj r.length) e) :
  zem (wtE e) (z7 r e) ∧ xd r e (z7 r e).1 (z7 r e).2 ∧ ((∀ v,v ∈ r → v.ok=true) → Expr.All zki e → (z7 r e).2=0 → (z7 r e).1.ok=true):=by
 revert hn ha
 induction e using Expr.ind with
 | h e ih =>
 intro hn ha
 rw [Expr.vu] at ha
 obtain ⟨⟨hin,hlw,hel⟩,hs⟩:=ha
 have hwe:=ze9 e
 rw [zbt]
 cases h1:(e.op.toList == wz.toList)
 case true =>
  rw [h1,if_pos rfl] at hwe
  rw [if_pos rfl]
  refine ⟨⟨hlw,?_⟩,ziP r e h1,fun _ hk _=>?_⟩
  ·show e.v.s.size ≤ _
   omega
  ·rw [Expr.vu] at hk;exact hk.1 h1
 rw [if_neg (by simp)]
 rw [h1,if_neg (by simp)] at hwe
 cases h2:(e.op.toList == sAt.toList)
 case true =>
  rw [h2,if_pos rfl] at hwe
  rw [if_pos rfl]
  obtain ⟨b1,b2⟩:=hin h2
  obtain ⟨j,hj⟩:∃ j:Nat,e.v.i=j:=⟨e.v.i.toNat,by omega⟩
  have hjr:j < r.length:=by omega
  have hg:=List.getElem?_eq_getElem hjr
  have hm:=List.getElem_mem hjr
  have hv:=hr _ hm
  have hat:atF r e.v=(r[j],0):=by unfold atF;rw [hj,show ((j:Nat):Int).toNat=j from rfl,hg]
  rw [hat]
  refine ⟨⟨hv.1,?_⟩,zkc r e h1 h2 hj hg,fun hk _ _=>hk _ hm⟩
  show (r[j]).s.size ≤ _
  omega
 rw [if_neg (by simp)]
 rw [h2,if_neg (by simp)] at hwe
 have part:∀ x,x ∈ e.l → zem (wtE x) (z7 r x) ∧ xd r x (z7 r x).1 (z7 r x).2 ∧ ((∀ v,v ∈ r → v.ok=true) → Expr.All zki x → (z7 r x).2=0 → (z7 r x).1.ok=true):=fun x hx=>ih x hx (by have:=J4 hx;omega) (hs x hx)
 by_cases h0:(xc r e.l).2=0
 case neg =>
  rw [if_pos h0]
  obtain ⟨k,x,hx,hf,hl⟩:=Q0 r e.l h0
  refine ⟨⟨by simp [zeroV,I64],by simp [zeroV];exact Nat.zero_le _⟩,?_,fun _ _ h=>absurd h h0⟩
  have px:=part x (List.mem_of_getElem? hx)
  rw [← hf]
  refine zif r e h1 h2 hel (e.l.map fun x=>(z7 r x).1) (by simp) k (List.getElem?_eq_some_iff.1 hx).1 (fun j y v hj hy hv=>?_) hx (by rw [hf];exact h0) px.2.1
  rw [List.getElem?_map,hy] at hv
  cases hv
  rw [← hl j y hj hy]
  exact (part y (List.mem_of_getElem? hy)).2.1
 rw [if_neg (by simp [h0])]
 obtain ⟨hvs,hall⟩:=Wr r e.l h0
 rw [hvs]
 have pp:∀ (j:Nat) x v,e.l[j]?=some x → (e.l.map fun x=>(z7 r x).1)[j]?=some v → xd r x v 0:=fun j x v hx hv=>by
  rw [List.getElem?_map,hx] at hv
  cases hv
  rw [← hall x (List.mem_of_getElem? hx)]
  exact (part x (List.mem_of_getElem? hx)).2.1
 have hvl:(e.l.map fun x=>(z7 r x).1).length=e.l.length:=by simp
 have hvi:∀ v,v ∈ (e.l.map fun x=>(z7 r x).1) → I64 v.i:=fun v hv=>by
  obtain ⟨x,hx,rfl⟩:=List.mem_map.1 hv
  exact (part x hx).1.1
 have hsum:zjn (e.l.map fun x=>(z7 r x).1) ≤ wtL e.l:=by
  rw [zeK]
  refine zj7 (K:=wtE) hvl fun j v x hv hx=>?_
  rw [List.getElem?_map,hx] at hv
  cases hv
  exact (part x (List.mem_of_getElem? hx)).1.2
 have hvs2:∀ v,v ∈ (e.l.map fun x=>(z7 r x).1) → v.s.size ≤ 10000000:=fun v hv=>by have:=zbm hv;omega
 generalize (e.l.map fun x=>(z7 r x).1)=vs at hvl pp hvi hsum hvs2
 cases h3:(e.op.toList == vS.toList)
 ·rw [if_neg (by simp)]
  obtain ⟨hF,hW⟩:=zk3 e.op vs (by omega) hvi hvs2
  refine ⟨⟨hF.i64,Nat.le_trans hF.size (by omega)⟩,?_,fun _ _ h=>hF.ok h⟩
  rcases hW with ⟨lo,hi,fv,is,W,hbad,hp⟩ | ⟨lo,hi,g,caps,W,hlo,hhi,G⟩
  ·rw [hp]
   rw [hvl] at hbad
   exact ziO r e h1 h2 h3 hel vs hvl pp W hbad
  ·exact zeX r e h1 h2 h3 hel vs hvl pp W (by omega) (by omega) G
 ·rw [if_pos rfl]
  obtain ⟨hC,hF⟩:=xn e.name vs (by omega) hvi hvs2
  have hFV:=vk.of (k:=100000 + zjn vs) hF (by omega) (fun x hx=>by
   obtain ⟨v,hv,rfl⟩:=List.mem_map.1 hx
   have:=zbm hv
   show v.s.size ≤ _
   omega)
  exact ⟨⟨hFV.i64,Nat.le_trans hFV.size (by omega)⟩,zfK r e h1 h2 h3 hel vs hvl pp hC,fun _ _ h=>hFV.ok h⟩
end Go.Ev
end
