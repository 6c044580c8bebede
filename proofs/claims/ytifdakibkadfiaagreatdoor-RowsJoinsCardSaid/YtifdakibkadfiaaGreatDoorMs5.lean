import Derived.Test.YtifdakibkadfiaaGreatDoorMs4
import Derived.Test.YtifdakibkadfiaaGreatDoorMs1
set_option linter.all false
set_option maxRecDepth 100000
set_option maxHeartbeats 8000000
section
open Go Go.Proofs Go.RowKit
namespace Go.Ev
open Go.Proofs.YtifdakibkadfiaaGreatDoor (GV zx VS zY kD)
abbrev zmq (p:Int × Int × Bool):AV:=.tup [cI p.1,cI p.2.1,cB p.2.2]
theorem zb9 {l:List UInt8} (h1:l ≠ Go.Proofs.YtifdakibkadfiaaGreatDoor.qj) (h2:l ≠ Go.Proofs.YtifdakibkadfiaaGreatDoor.vd) (h:∀ x,x ∈ Go.Proofs.YtifdakibkadfiaaGreatDoor.names → l ≠ x):Go.Proofs.YtifdakibkadfiaaGreatDoor.zW l=(0,0,false):=by
 have hp:Go.Proofs.YtifdakibkadfiaaGreatDoor.posOf l = -1:=by
  unfold Go.Proofs.YtifdakibkadfiaaGreatDoor.posOf
  have:Go.Proofs.YtifdakibkadfiaaGreatDoor.names.findIdx? (· == l)=none:=by
   rw [List.findIdx?_eq_none_iff]
   intro x hx
   exact beq_eq_false_iff_ne.2 fun h3=>h x hx h3.symm
  rw [this]
 unfold Go.Proofs.YtifdakibkadfiaaGreatDoor.zW
 rw [if_neg h1,if_neg h2,hp,if_pos (by omega)]
theorem zgi (name:ByteArray):Good Tryz.prog 110 [cS name] [] (zmq (Go.Proofs.YtifdakibkadfiaaGreatDoor.zW name.toList)) []:=by
 refine Good.zg TT 4000 Tryz.func110 rfl rfl ?_
 unfold Tryz.f110
 simp only [go_sem,go_sem_proc]
 cases a0:(name.toList == (⟨#[99,111,97,108,101,115,99,101]⟩:ByteArray).toList)
 case true =>
  have e:Go.Proofs.YtifdakibkadfiaaGreatDoor.zW name.toList=(1,-1,true):=by rw [eq_of_beq a0,bsl];rfl
  simp only [go_sem,a0,e,go_sem_proc]
  all_goals exact Le.refl _
 cases a1:(name.toList == (⟨#[97,98,115]⟩:ByteArray).toList)
 case true =>
  have e:Go.Proofs.YtifdakibkadfiaaGreatDoor.zW name.toList=(1,1,true):=by rw [eq_of_beq a1,bsl];rfl
  simp only [go_sem,a0,a1,e,go_sem_proc]
  all_goals exact Le.refl _
 cases a2:(name.toList == (⟨#[115,105,103,110]⟩:ByteArray).toList)
 case true =>
  have e:Go.Proofs.YtifdakibkadfiaaGreatDoor.zW name.toList=(1,1,true):=by rw [eq_of_beq a2,bsl];rfl
  simp only [go_sem,a0,a1,a2,e,go_sem_proc]
  all_goals exact Le.refl _
 cases a3:(name.toList == (⟨#[108,101,110,103,116,104]⟩:ByteArray).toList)
 case true =>
  have e:Go.Proofs.YtifdakibkadfiaaGreatDoor.zW name.toList=(1,1,true):=by rw [eq_of_beq a3,bsl];rfl
  simp only [go_sem,a0,a1,a2,a3,e,go_sem_proc]
  all_goals exact Le.refl _
 cases a4:(name.toList == (⟨#[108,111,119,101,114]⟩:ByteArray).toList)
 case true =>
  have e:Go.Proofs.YtifdakibkadfiaaGreatDoor.zW name.toList=(1,1,true):=by rw [eq_of_beq a4,bsl];rfl
  simp only [go_sem,a0,a1,a2,a3,a4,e,go_sem_proc]
  all_goals exact Le.refl _
 cases a5:(name.toList == (⟨#[117,112,112,101,114]⟩:ByteArray).toList)
 case true =>
  have e:Go.Proofs.YtifdakibkadfiaaGreatDoor.zW name.toList=(1,1,true):=by rw [eq_of_beq a5,bsl];rfl
  simp only [go_sem,a0,a1,a2,a3,a4,a5,e,go_sem_proc]
  all_goals exact Le.refl _
 cases a6:(name.toList == (⟨#[116,114,105,109]⟩:ByteArray).toList)
 case true =>
  have e:Go.Proofs.YtifdakibkadfiaaGreatDoor.zW name.toList=(1,1,true):=by rw [eq_of_beq a6,bsl];rfl
  simp only [go_sem,a0,a1,a2,a3,a4,a5,a6,e,go_sem_proc]
  all_goals exact Le.refl _
 cases a7:(name.toList == (⟨#[110,117,108,108,105,102]⟩:ByteArray).toList)
 case true =>
  have e:Go.Proofs.YtifdakibkadfiaaGreatDoor.zW name.toList=(2,2,true):=by rw [eq_of_beq a7,bsl];rfl
  simp only [go_sem,a0,a1,a2,a3,a4,a5,a6,a7,e,go_sem_proc]
  all_goals exact Le.refl _
 cases a8:(name.toList == (⟨#[105,110,115,116,114]⟩:ByteArray).toList)
 case true =>
  have e:Go.Proofs.YtifdakibkadfiaaGreatDoor.zW name.toList=(2,2,true):=by rw [eq_of_beq a8,bsl];rfl
  simp only [go_sem,a0,a1,a2,a3,a4,a5,a6,a7,a8,e,go_sem_proc]
  all_goals exact Le.refl _
 cases a9:(name.toList == (⟨#[115,117,98,115,116,114]⟩:ByteArray).toList)
 case true =>
  have e:Go.Proofs.YtifdakibkadfiaaGreatDoor.zW name.toList=(3,3,true):=by rw [eq_of_beq a9,bsl];rfl
  simp only [go_sem,a0,a1,a2,a3,a4,a5,a6,a7,a8,a9,e,go_sem_proc]
  all_goals exact Le.refl _
 cases a10:(name.toList == (⟨#[114,101,112,108,97,99,101]⟩:ByteArray).toList)
 case true =>
  have e:Go.Proofs.YtifdakibkadfiaaGreatDoor.zW name.toList=(3,3,true):=by rw [eq_of_beq a10,bsl];rfl
  simp only [go_sem,a0,a1,a2,a3,a4,a5,a6,a7,a8,a9,a10,e,go_sem_proc]
  all_goals exact Le.refl _
 have e:Go.Proofs.YtifdakibkadfiaaGreatDoor.zW name.toList=(0,0,false):=by
  refine zb9 (fun h=>(beq_eq_false_iff_ne.1 a0) (h.trans (bsl [99,111,97,108,101,115,99,101]).symm)) (fun h=>(beq_eq_false_iff_ne.1 a7) (h.trans (bsl [110,117,108,108,105,102]).symm)) fun x hx=>?_
  simp only [Go.Proofs.YtifdakibkadfiaaGreatDoor.names,List.mem_cons,List.not_mem_nil,or_false] at hx
  rcases hx with rfl | rfl | rfl | rfl | rfl | rfl | rfl | rfl | rfl
  ·exact fun h=>(beq_eq_false_iff_ne.1 a1) (h.trans (bsl [97,98,115]).symm)
  ·exact fun h=>(beq_eq_false_iff_ne.1 a2) (h.trans (bsl [115,105,103,110]).symm)
  ·exact fun h=>(beq_eq_false_iff_ne.1 a3) (h.trans (bsl [108,101,110,103,116,104]).symm)
  ·exact fun h=>(beq_eq_false_iff_ne.1 a4) (h.trans (bsl [108,111,119,101,114]).symm)
  ·exact fun h=>(beq_eq_false_iff_ne.1 a5) (h.trans (bsl [117,112,112,101,114]).symm)
  ·exact fun h=>(beq_eq_false_iff_ne.1 a6) (h.trans (bsl [116,114,105,109]).symm)
  ·exact fun h=>(beq_eq_false_iff_ne.1 a9) (h.trans (bsl [115,117,98,115,116,114]).symm)
  ·exact fun h=>(beq_eq_false_iff_ne.1 a8) (h.trans (bsl [105,110,115,116,114]).symm)
  ·exact fun h=>(beq_eq_false_iff_ne.1 a10) (h.trans (bsl [114,101,112,108,97,99,101]).symm)
 simp only [go_sem,a0,a1,a2,a3,a4,a5,a6,a7,a8,a9,a10,e,go_sem_proc]
 all_goals exact Le.refl _
def jQ (l:List Int):CV:=.lst 1 false (l.map fun n=>[.int .i64 n])
theorem zkY (l:List Int) (n:Int) (hl:l.length ≤ 1000):Good Tryz.prog 112 [.c (jQ l),cI n] [] (cB (l.contains n)) []:=by
 unfold jQ
 refine Good.zg TT 4000 Tryz.func112 rfl rfl ?_
 unfold Tryz.f112
 simp only [go_sem,go_sem_proc]
 refine Lp.at TT 4000 0 (Nat.le_of_ble_eq_true rfl) [false,false,false,false,true,false,true,false,false,true,true,true,true,true,true,true,true] (fun j:Nat=>l.length - j) (fun j=>j ≤ l.length ∧ (l.take j).contains n=false) (fun j=>[(9,cI j)]) (fun _=>[]) (0) (⟨Nat.zero_le _,rfl⟩) ?_ ?_
 ·simp only [go_sem,go_sem_proc]
 ·rintro j ⟨i1,i2⟩
  rcases Nat.lt_or_ge j l.length with hlt | hge
  ·obtain ⟨x,hx,hm,ht,hd⟩:=vj hlt
   have hw:=zh (j:=j) (by omega)
   cases hc:(x == n)
   ·simp only [go_sem,hlt,hx,hc,hw,go_sem_proc]
    exact ⟨j + 1,by omega,⟨by omega,by
     rw [ht,List.contains_eq_any_beq,List.any_append,← List.contains_eq_any_beq,i2]
     have:(n == x)=false:=by rw [beq_eq_false_iff_ne] at hc ⊢;exact fun h=>hc h.symm
     simp [this]⟩,zq.of_eq rfl⟩
   ·have:l.contains n=true:=by
     rw [List.contains_iff_mem,← eq_of_beq hc];exact hm
    simp only [go_sem,hlt,hx,hc,this,go_sem_proc]
  ·have:j=l.length:=by omega
   subst this
   rw [List.take_length] at i2
   simp only [go_sem,Nat.lt_irrefl,i2,go_sem_proc]
theorem zfV (i:Int):Good Tryz.prog 113 [cS vo,cI i] [] (.c (jQ [2])) []:=by
 have k_abs:(vo.toList == vo.toList)=true:=beq_self_eq_true _
 have k_sign:(vo.toList == qM.toList)=false:=(zF [97,98,115] [115,105,103,110]).trans rfl
 have k_substr:(vo.toList == zI.toList)=false:=(zF [97,98,115] [115,117,98,115,116,114]).trans rfl
 have k_length:(vo.toList == zR.toList)=false:=(zF [97,98,115] [108,101,110,103,116,104]).trans rfl
 refine Good.zg TT 4000 Tryz.func113 rfl rfl ?_
 unfold Tryz.f113
 simp only [go_sem,k_abs,k_sign,k_substr,k_length,go_sem_proc]
 all_goals exact Le.refl _
theorem zdA (i:Int):Good Tryz.prog 113 [cS qM,cI i] [] (.c (jQ [2])) []:=by
 have k_abs:(qM.toList == vo.toList)=false:=(zF [115,105,103,110] [97,98,115]).trans rfl
 have k_sign:(qM.toList == qM.toList)=true:=beq_self_eq_true _
 have k_substr:(qM.toList == zI.toList)=false:=(zF [115,105,103,110] [115,117,98,115,116,114]).trans rfl
 have k_length:(qM.toList == zR.toList)=false:=(zF [115,105,103,110] [108,101,110,103,116,104]).trans rfl
 refine Good.zg TT 4000 Tryz.func113 rfl rfl ?_
 unfold Tryz.f113
 simp only [go_sem,k_abs,k_sign,k_substr,k_length,go_sem_proc]
 all_goals exact Le.refl _
theorem W2 (i:Int):Good Tryz.prog 113 [cS zR,cI i] [] (.c (jQ [3,4])) []:=by
 have k_abs:(zR.toList == vo.toList)=false:=(zF [108,101,110,103,116,104] [97,98,115]).trans rfl
 have k_sign:(zR.toList == qM.toList)=false:=(zF [108,101,110,103,116,104] [115,105,103,110]).trans rfl
 have k_substr:(zR.toList == zI.toList)=false:=(zF [108,101,110,103,116,104] [115,117,98,115,116,114]).trans rfl
 have k_length:(zR.toList == zR.toList)=true:=beq_self_eq_true _
 refine Good.zg TT 4000 Tryz.func113 rfl rfl ?_
 unfold Tryz.f113
 simp only [go_sem,k_abs,k_sign,k_substr,k_length,go_sem_proc]
 all_goals exact Le.refl _
theorem Y9 (i:Int):Good Tryz.prog 113 [cS ko,cI i] [] (.c (jQ [3])) []:=by
 have k_abs:(ko.toList == vo.toList)=false:=(zF [108,111,119,101,114] [97,98,115]).trans rfl
 have k_sign:(ko.toList == qM.toList)=false:=(zF [108,111,119,101,114] [115,105,103,110]).trans rfl
 have k_substr:(ko.toList == zI.toList)=false:=(zF [108,111,119,101,114] [115,117,98,115,116,114]).trans rfl
 have k_length:(ko.toList == zR.toList)=false:=(zF [108,111,119,101,114] [108,101,110,103,116,104]).trans rfl
 refine Good.zg TT 4000 Tryz.func113 rfl rfl ?_
 unfold Tryz.f113
 simp only [go_sem,k_abs,k_sign,k_substr,k_length,go_sem_proc]
 all_goals exact Le.refl _
theorem zat (i:Int):Good Tryz.prog 113 [cS ku,cI i] [] (.c (jQ [3])) []:=by
 have k_abs:(ku.toList == vo.toList)=false:=(zF [117,112,112,101,114] [97,98,115]).trans rfl
 have k_sign:(ku.toList == qM.toList)=false:=(zF [117,112,112,101,114] [115,105,103,110]).trans rfl
 have k_substr:(ku.toList == zI.toList)=false:=(zF [117,112,112,101,114] [115,117,98,115,116,114]).trans rfl
 have k_length:(ku.toList == zR.toList)=false:=(zF [117,112,112,101,114] [108,101,110,103,116,104]).trans rfl
 refine Good.zg TT 4000 Tryz.func113 rfl rfl ?_
 unfold Tryz.f113
 simp only [go_sem,k_abs,k_sign,k_substr,k_length,go_sem_proc]
 all_goals exact Le.refl _
theorem zdL (i:Int):Good Tryz.prog 113 [cS vF,cI i] [] (.c (jQ [3])) []:=by
 have k_abs:(vF.toList == vo.toList)=false:=(zF [116,114,105,109] [97,98,115]).trans rfl
 have k_sign:(vF.toList == qM.toList)=false:=(zF [116,114,105,109] [115,105,103,110]).trans rfl
 have k_substr:(vF.toList == zI.toList)=false:=(zF [116,114,105,109] [115,117,98,115,116,114]).trans rfl
 have k_length:(vF.toList == zR.toList)=false:=(zF [116,114,105,109] [108,101,110,103,116,104]).trans rfl
 refine Good.zg TT 4000 Tryz.func113 rfl rfl ?_
 unfold Tryz.f113
 simp only [go_sem,k_abs,k_sign,k_substr,k_length,go_sem_proc]
 all_goals exact Le.refl _
theorem J0 (i:Int) (hi:¬ (i > 0)):Good Tryz.prog 113 [cS zI,cI i] [] (.c (jQ [3,4])) []:=by
 have k_abs:(zI.toList == vo.toList)=false:=(zF [115,117,98,115,116,114] [97,98,115]).trans rfl
 have k_sign:(zI.toList == qM.toList)=false:=(zF [115,117,98,115,116,114] [115,105,103,110]).trans rfl
 have k_substr:(zI.toList == zI.toList)=true:=beq_self_eq_true _
 have k_length:(zI.toList == zR.toList)=false:=(zF [115,117,98,115,116,114] [108,101,110,103,116,104]).trans rfl
 refine Good.zg TT 4000 Tryz.func113 rfl rfl ?_
 unfold Tryz.f113
 simp only [go_sem,k_abs,k_sign,k_substr,k_length,hi,go_sem_proc]
 all_goals exact Le.refl _
theorem y6 (i:Int) (hi:i > 0):Good Tryz.prog 113 [cS zI,cI i] [] (.c (jQ [2])) []:=by
 have k_abs:(zI.toList == vo.toList)=false:=(zF [115,117,98,115,116,114] [97,98,115]).trans rfl
 have k_sign:(zI.toList == qM.toList)=false:=(zF [115,117,98,115,116,114] [115,105,103,110]).trans rfl
 have k_substr:(zI.toList == zI.toList)=true:=beq_self_eq_true _
 have k_length:(zI.toList == zR.toList)=false:=(zF [115,117,98,115,116,114] [108,101,110,103,116,104]).trans rfl
 refine Good.zg TT 4000 Tryz.func113 rfl rfl ?_
 unfold Tryz.f113
 simp only [go_sem,k_abs,k_sign,k_substr,k_length,hi,go_sem_proc]
 all_goals exact Le.refl _
theorem Ka (i:Int):Good Tryz.prog 113 [cS kf,cI i] [] (.c (jQ [3])) []:=by
 have k_abs:(kf.toList == vo.toList)=false:=(zF [105,110,115,116,114] [97,98,115]).trans rfl
 have k_sign:(kf.toList == qM.toList)=false:=(zF [105,110,115,116,114] [115,105,103,110]).trans rfl
 have k_substr:(kf.toList == zI.toList)=false:=(zF [105,110,115,116,114] [115,117,98,115,116,114]).trans rfl
 have k_length:(kf.toList == zR.toList)=false:=(zF [105,110,115,116,114] [108,101,110,103,116,104]).trans rfl
 refine Good.zg TT 4000 Tryz.func113 rfl rfl ?_
 unfold Tryz.f113
 simp only [go_sem,k_abs,k_sign,k_substr,k_length,go_sem_proc]
 all_goals exact Le.refl _
theorem wH (i:Int):Good Tryz.prog 113 [cS qA,cI i] [] (.c (jQ [3])) []:=by
 have k_abs:(qA.toList == vo.toList)=false:=(zF [114,101,112,108,97,99,101] [97,98,115]).trans rfl
 have k_sign:(qA.toList == qM.toList)=false:=(zF [114,101,112,108,97,99,101] [115,105,103,110]).trans rfl
 have k_substr:(qA.toList == zI.toList)=false:=(zF [114,101,112,108,97,99,101] [115,117,98,115,116,114]).trans rfl
 have k_length:(qA.toList == zR.toList)=false:=(zF [114,101,112,108,97,99,101] [108,101,110,103,116,104]).trans rfl
 refine Good.zg TT 4000 Tryz.func113 rfl rfl ?_
 unfold Tryz.f113
 simp only [go_sem,k_abs,k_sign,k_substr,k_length,go_sem_proc]
 all_goals exact Le.refl _
end Go.Ev
end
section
open Go Go.Proofs Go.RowKit
namespace Go.Ev
open Go.Proofs.YtifdakibkadfiaaGreatDoor (GV zx VS zY kD)
theorem zb4 {x:Val} (h:x.ok=true):x.k=0 ∨ x.k=1 ∨ x.k=2 ∨ x.k=3 ∨ x.k=4:=Go.Proofs.YtifdakibkadfiaaGreatDoor.QS (x:=toG x) (by rw [yd];exact h)
theorem jr {x:Val} (hok:x.ok=true) {kd:Int} {ks:List Int} (h:∀ k,k ∈ [(1:Int),2,3,4] → (bits BinOp.and IntKind.i64 (kd / 2 ^ k.toNat) 1 == 0) = !(ks.contains k)) (h0:x.k ≠ 0):Go.Proofs.YtifdakibkadfiaaGreatDoor.zT (toG x) kd = !(ks.contains x.k):=by
 unfold Go.Proofs.YtifdakibkadfiaaGreatDoor.zT
 have e:(toG x).k=x.k:=rfl
 rw [e,bne_iff_ne.2 h0,Bool.true_and]
 refine h _ ?_
 rcases zb4 hok with h1 | h1 | h1 | h1 | h1
 ·exact absurd h1 h0
 all_goals rw [h1];simp
theorem k4:∀ k,k ∈ [(1:Int),2,3,4] → (bits BinOp.and IntKind.i64 (4 / 2 ^ k.toNat) 1 == 0) = !([(2:Int)].contains k):=by
 intro k hk;simp only [List.mem_cons,List.not_mem_nil,or_false] at hk;rcases hk with rfl | rfl | rfl | rfl <;> kernel_rfl
theorem k8:∀ k,k ∈ [(1:Int),2,3,4] → (bits BinOp.and IntKind.i64 (8 / 2 ^ k.toNat) 1 == 0) = !([(3:Int)].contains k):=by
 intro k hk;simp only [List.mem_cons,List.not_mem_nil,or_false] at hk;rcases hk with rfl | rfl | rfl | rfl <;> kernel_rfl
theorem k24:∀ k,k ∈ [(1:Int),2,3,4] → (bits BinOp.and IntKind.i64 (24 / 2 ^ k.toNat) 1 == 0) = !([(3:Int),4].contains k):=by
 intro k hk;simp only [List.mem_cons,List.not_mem_nil,or_false] at hk;rcases hk with rfl | rfl | rfl | rfl <;> kernel_rfl
theorem zmM {x:Val} (hk:x.ok=true) (h0:x.k ≠ 0) (hb:Go.Proofs.YtifdakibkadfiaaGreatDoor.zT (toG x) 4=false):x.k=2:=by
 rw [jr hk k4 h0] at hb
 rcases zb4 hk with h | h | h | h | h
 ·exact absurd h h0
 ·rw [h] at hb;exact absurd hb (by decide)
 ·exact h
 ·rw [h] at hb;exact absurd hb (by decide)
 ·rw [h] at hb;exact absurd hb (by decide)
def zlX (name:ByteArray) (i:Nat) (kd:Int):Prop:=∃ ks:List Int,ks.length ≤ 1000 ∧ Good Tryz.prog 113 [cS name,cI i] [] (.c (jQ ks)) [] ∧ ∀ x:Val,x.ok=true → x.k ≠ 0 → Go.Proofs.YtifdakibkadfiaaGreatDoor.zT (toG x) kd = !(ks.contains x.k)
def nameAt (p:Nat):ByteArray:=match p with
 | 0=>vo
 | 1=>qM
 | 2=>zR
 | 3=>ko
 | 4=>ku
 | 5=>vF
 | 6=>zI
 | 7=>kf
 | _=>qA
theorem Xf (p:Nat) (hp:p < 9):(nameAt p).toList=Go.Proofs.YtifdakibkadfiaaGreatDoor.names.getD p []:=by
 match p,hp with
 | 0,_=>exact bsl [97,98,115]
 | 1,_=>exact bsl [115,105,103,110]
 | 2,_=>exact bsl [108,101,110,103,116,104]
 | 3,_=>exact bsl [108,111,119,101,114]
 | 4,_=>exact bsl [117,112,112,101,114]
 | 5,_=>exact bsl [116,114,105,109]
 | 6,_=>exact bsl [115,117,98,115,116,114]
 | 7,_=>exact bsl [105,110,115,116,114]
 | 8,_=>exact bsl [114,101,112,108,97,99,101]
theorem zjX (p:Nat) (hp:p < 9) (i:Nat) (kd:Int) (h:(Go.Proofs.YtifdakibkadfiaaGreatDoor.zu.getD p [])[i]?=some kd):zlX (nameAt p) i kd:=by
 match p,hp with
 | 0,_ =>
  match i,h with
  | 0,h=>cases h;exact ⟨_,by decide,zfV 0,fun x hk h0=>jr hk k4 h0⟩
  | i + 1,h=>simp [Go.Proofs.YtifdakibkadfiaaGreatDoor.zu] at h
 | 1,_ =>
  match i,h with
  | 0,h=>cases h;exact ⟨_,by decide,zdA 0,fun x hk h0=>jr hk k4 h0⟩
  | i + 1,h=>simp [Go.Proofs.YtifdakibkadfiaaGreatDoor.zu] at h
 | 2,_ =>
  match i,h with
  | 0,h=>cases h;exact ⟨_,by decide,W2 0,fun x hk h0=>jr hk k24 h0⟩
  | i + 1,h=>simp [Go.Proofs.YtifdakibkadfiaaGreatDoor.zu] at h
 | 3,_ =>
  match i,h with
  | 0,h=>cases h;exact ⟨_,by decide,Y9 0,fun x hk h0=>jr hk k8 h0⟩
  | i + 1,h=>simp [Go.Proofs.YtifdakibkadfiaaGreatDoor.zu] at h
 | 4,_ =>
  match i,h with
  | 0,h=>cases h;exact ⟨_,by decide,zat 0,fun x hk h0=>jr hk k8 h0⟩
  | i + 1,h=>simp [Go.Proofs.YtifdakibkadfiaaGreatDoor.zu] at h
 | 5,_ =>
  match i,h with
  | 0,h=>cases h;exact ⟨_,by decide,zdL 0,fun x hk h0=>jr hk k8 h0⟩
  | i + 1,h=>simp [Go.Proofs.YtifdakibkadfiaaGreatDoor.zu] at h
 | 6,_ =>
  match i,h with
  | 0,h=>cases h;exact ⟨_,by decide,J0 0 (by decide),fun x hk h0=>jr hk k24 h0⟩
  | 1,h=>cases h;exact ⟨_,by decide,y6 1 (by decide),fun x hk h0=>jr hk k4 h0⟩
  | 2,h=>cases h;exact ⟨_,by decide,y6 2 (by decide),fun x hk h0=>jr hk k4 h0⟩
  | i + 3,h=>simp [Go.Proofs.YtifdakibkadfiaaGreatDoor.zu] at h
 | 7,_ =>
  match i,h with
  | 0,h=>cases h;exact ⟨_,by decide,Ka 0,fun x hk h0=>jr hk k8 h0⟩
  | 1,h=>cases h;exact ⟨_,by decide,Ka 1,fun x hk h0=>jr hk k8 h0⟩
  | i + 2,h=>simp [Go.Proofs.YtifdakibkadfiaaGreatDoor.zu] at h
 | 8,_ =>
  match i,h with
  | 0,h=>cases h;exact ⟨_,by decide,wH 0,fun x hk h0=>jr hk k8 h0⟩
  | 1,h=>cases h;exact ⟨_,by decide,wH 1,fun x hk h0=>jr hk k8 h0⟩
  | 2,h=>cases h;exact ⟨_,by decide,wH 2,fun x hk h0=>jr hk k8 h0⟩
  | i + 3,h=>simp [Go.Proofs.YtifdakibkadfiaaGreatDoor.zu] at h
theorem ziS (p:Nat) (hp:p < 9) (l:List Val) (hlen:l.length=(Go.Proofs.YtifdakibkadfiaaGreatDoor.zu.getD p []).length) (hok:∀ x,x ∈ l → x.ok=true) (h0:∀ x,x ∈ l → x.k ≠ 0) (hi:∀ x,x ∈ l → I64 x.i) (hs:∀ x,x ∈ l → x.s.size ≤ 10000000)
  (hg:∀ (j:Nat) (x:Val) (kd:Int),l[j]?=some x → (Go.Proofs.YtifdakibkadfiaaGreatDoor.zu.getD p [])[j]?=some kd → Go.Proofs.YtifdakibkadfiaaGreatDoor.zT (toG x) kd=false):Good Tryz.prog 114 [cS (nameAt p),.c (qk l)] [] (qY (unG (Go.Proofs.YtifdakibkadfiaaGreatDoor.doF p (l.map toG))).1 (unG (Go.Proofs.YtifdakibkadfiaaGreatDoor.doF p (l.map toG))).2) []:=by
 match p,hp with
 | 0,_ =>
  obtain ⟨x,rfl⟩:∃ x,l=[x]:=by match l,hlen with | [x],_=>exact ⟨x,rfl⟩
  exact zhT x (hi x (by simp))
 | 1,_ =>
  obtain ⟨x,rfl⟩:∃ x,l=[x]:=by match l,hlen with | [x],_=>exact ⟨x,rfl⟩
  have hk2:=zmM (hok x (by simp)) (h0 x (by simp)) (hg 0 x 4 rfl rfl)
  have hs0:x.s.size=0:=by
   have:=hok x (by simp)
   obtain ⟨k,i,s⟩:=x
   simp only at hk2
   subst hk2
   unfold Val.ok at this
   have h2:(s.size == 0)=true:=by simpa using this
   exact beq_iff_eq.1 h2
  exact zfv x hk2 hs0
 | 2,_ =>
  obtain ⟨x,rfl⟩:∃ x,l=[x]:=by match l,hlen with | [x],_=>exact ⟨x,rfl⟩
  exact QZ x
 | 3,_ =>
  obtain ⟨x,rfl⟩:∃ x,l=[x]:=by match l,hlen with | [x],_=>exact ⟨x,rfl⟩
  exact zch x (by have:=hs x (by simp);omega)
 | 4,_ =>
  obtain ⟨x,rfl⟩:∃ x,l=[x]:=by match l,hlen with | [x],_=>exact ⟨x,rfl⟩
  exact zc2 x (by have:=hs x (by simp);omega)
 | 5,_ =>
  obtain ⟨x,rfl⟩:∃ x,l=[x]:=by match l,hlen with | [x],_=>exact ⟨x,rfl⟩
  exact zft x (by have:=hs x (by simp);omega)
 | 6,_ =>
  obtain ⟨x,y,z,rfl⟩:∃ x y z,l=[x,y,z]:=by match l,hlen with | [x,y,z],_=>exact ⟨x,y,z,rfl⟩
  exact Vc x y z (by have:=hs x (by simp);omega) (hi y (by simp)) (hi z (by simp))
 | 7,_ =>
  obtain ⟨x,y,rfl⟩:∃ x y,l=[x,y]:=by match l,hlen with | [x,y],_=>exact ⟨x,y,rfl⟩
  exact V5 x y (by have:=hs x (by simp);omega) (by have:=hs y (by simp);omega)
 | 8,_ =>
  obtain ⟨x,y,z,rfl⟩:∃ x y z,l=[x,y,z]:=by match l,hlen with | [x,y,z],_=>exact ⟨x,y,z,rfl⟩
  have ex:=Go.Proofs.YtifdakibkadfiaaGreatDoor.JC (x:=toG x) (by rw [yd];exact hok x (by simp)) (Go.Proofs.YtifdakibkadfiaaGreatDoor.ziz (by rw [yd];exact hok x (by simp)) (h0 x (by simp)) (hg 0 x 8 rfl rfl))
  exact XU x y z (hs x (by simp)) (hs y (by simp)) (hs z (by simp))
end Go.Ev
end
section
open Go Go.Proofs Go.RowKit
namespace Go.Ev
open Go.Proofs.YtifdakibkadfiaaGreatDoor (GV zx VS zY kD)
theorem zbq (l:List Val):(l.map toG).all GV.ok=l.all Val.ok:=by
 rw [List.all_map]
 congr 1
 funext x;exact yd x
theorem zhB (l:List Val):(l.map toG).any (fun x=>x.k == 0)=l.any fun x=>x.k == 0:=by rw [List.any_map];rfl
theorem zhi:∀ l:List Val,Go.Proofs.YtifdakibkadfiaaGreatDoor.idxOf (fun v:GV=>v.k != 0) (l.map toG)=match l.findIdx? (fun x=>x.k != 0) with | some i=>(i:Int) | none=>-1:=fun l=>by
 unfold Go.Proofs.YtifdakibkadfiaaGreatDoor.idxOf
 rw [List.findIdx?_map];rfl
theorem zbc (l:List Val) (i:Nat):(l.map toG).getD i GV.none=toG (l.getD i zeroV):=by
 rw [List.getD_eq_getElem?_getD,List.getD_eq_getElem?_getD,List.getElem?_map]
 cases l[i]? <;> rfl
theorem zcM (name:ByteArray) (l:List Val) (hb:l.length ≤ 1000000) (hi:∀ x,x ∈ l → I64 x.i) (hs:∀ x,x ∈ l → x.s.size ≤ 10000000) (lo hI:Int) (hok:l.all Val.ok=true) (hA:Good Tryz.prog 110 [cS name] [] (zmq (lo,hI,true)) [])
  (har:Go.Proofs.YtifdakibkadfiaaGreatDoor.zW name.toList=(lo,hI,true)) (c1:¬ (l.length:Int) < lo) (c2:¬ (0 ≤ hI ∧ hI < (l.length:Int))) (hco:(name.toList == Go.Proofs.YtifdakibkadfiaaGreatDoor.qj)=false) (hnu:(name.toList == Go.Proofs.YtifdakibkadfiaaGreatDoor.vd)=false) :
  Good Tryz.prog 79 [cS name,.c (qk l)] [] (qY (ve name l).1 (ve name l).2) []:=by
 have hcb:(name.toList == (⟨#[99,111,97,108,101,115,99,101]⟩:ByteArray).toList)=(name.toList == Go.Proofs.YtifdakibkadfiaaGreatDoor.qj):=by rw [bsl [99,111,97,108,101,115,99,101]];rfl
 have hnb:(name.toList == (⟨#[110,117,108,108,105,102]⟩:ByteArray).toList)=(name.toList == Go.Proofs.YtifdakibkadfiaaGreatDoor.vd):=by rw [bsl [110,117,108,108,105,102]];rfl
 rw [hco] at hcb
 have hcoP:¬ name.toList=Go.Proofs.YtifdakibkadfiaaGreatDoor.qj:=beq_eq_false_iff_ne.1 hco
 rw [hnu] at hnb
 have hnuP:¬ name.toList=Go.Proofs.YtifdakibkadfiaaGreatDoor.vd:=beq_eq_false_iff_ne.1 hnu
 obtain ⟨p,hp9,hp⟩:∃ i:Nat,i < 9 ∧ Go.Proofs.YtifdakibkadfiaaGreatDoor.posOf name.toList=i:=by
  rcases Go.Proofs.YtifdakibkadfiaaGreatDoor.Vn name.toList with h | h
  ·exfalso
   unfold Go.Proofs.YtifdakibkadfiaaGreatDoor.zW at har
   rw [if_neg hcoP,if_neg hnuP,if_pos (by omega)] at har
   simp at har
  ·exact h
 have hk:=Go.Proofs.YtifdakibkadfiaaGreatDoor.Z8 hco hnu hp
 rw [har] at hk
 simp only [Prod.mk.injEq,and_true] at hk
 have hlen:l.length=(Go.Proofs.YtifdakibkadfiaaGreatDoor.zu.getD p []).length:=by omega
 have hname:name=nameAt p:=by
  apply Go.Proofs.YtifdakibkadfiaaGreatDoor.zO
  rw [Xf p hp9]
  unfold Go.Proofs.YtifdakibkadfiaaGreatDoor.posOf at hp
  split at hp
  ·rename_i i h
   have hip:i=p:=by omega
   subst hip
   rw [List.findIdx?_eq_some_iff_getElem] at h
   obtain ⟨g1,g2,_⟩:=h
   rw [List.getD_eq_getElem?_getD,List.getElem?_eq_getElem g1]
   exact (eq_of_beq g2).symm
  ·omega
 have hz:=Go.Proofs.YtifdakibkadfiaaGreatDoor.zeD (l:=l.map toG) (m:=Go.Proofs.YtifdakibkadfiaaGreatDoor.zu.getD p []) (by rw [List.length_map];exact hlen)
 have hpt:(Go.Proofs.YtifdakibkadfiaaGreatDoor.posOf name.toList).toNat=p:=by omega
 have eBase:ve name l=unG (if ((l.map toG).zip (Go.Proofs.YtifdakibkadfiaaGreatDoor.zu.getD p [])).any (fun q=>Go.Proofs.YtifdakibkadfiaaGreatDoor.zT q.1 q.2)=true then (GV.none,20) else if (l.any fun x=>x.k == 0)=true then (GV.none,0) else Go.Proofs.YtifdakibkadfiaaGreatDoor.doF p (l.map toG)):=by
  unfold ve Go.Proofs.YtifdakibkadfiaaGreatDoor.VJ
  rw [zbq,hok,har,if_neg (by simp),if_neg (by simp),if_neg (by simpa using c1),if_neg (by simpa using c2),if_neg (by simp [hco]),if_neg (by simp [hnu]),zhB,hpt]
 have q1:hI ≥ 0:=by omega
 have q2:¬ ((l.length:Int) > hI):=by omega
 have eBad:(∃ (j:Nat) (x:GV) (kd:Int),(l.map toG)[j]?=some x ∧ (Go.Proofs.YtifdakibkadfiaaGreatDoor.zu.getD p [])[j]?=some kd ∧ Go.Proofs.YtifdakibkadfiaaGreatDoor.zT x kd=true) → ve name l=(zeroV,20):=fun h=>by rw [eBase,if_pos (hz.2 h)];rfl
 have hno:(∀ (i:Nat) (x:Val) (kd:Int),i < l.length → l[i]?=some x → (Go.Proofs.YtifdakibkadfiaaGreatDoor.zu.getD p [])[i]?=some kd → Go.Proofs.YtifdakibkadfiaaGreatDoor.zT (toG x) kd=false) → ¬ (((l.map toG).zip (Go.Proofs.YtifdakibkadfiaaGreatDoor.zu.getD p [])).any (fun q=>Go.Proofs.YtifdakibkadfiaaGreatDoor.zT q.1 q.2)=true):=fun h h2=>by
  obtain ⟨j,x,kd,g1,g2,g3⟩:=hz.1 h2
  rw [List.getElem?_map] at g1
  obtain ⟨y,gy,rfl⟩:=Option.map_eq_some_iff.1 g1
  rw [h j y kd (List.getElem?_eq_some_iff.1 gy).1 gy g2] at g3;cases g3
 have eNull:(∀ (i:Nat) (x:Val) (kd:Int),i < l.length → l[i]?=some x → (Go.Proofs.YtifdakibkadfiaaGreatDoor.zu.getD p [])[i]?=some kd → Go.Proofs.YtifdakibkadfiaaGreatDoor.zT (toG x) kd=false) → (l.any fun x=>x.k == 0)=true → ve name l=(zeroV,0):=fun h h2=>by rw [eBase,if_neg (hno h),if_pos h2];rfl
 have eDo:(∀ (i:Nat) (x:Val) (kd:Int),i < l.length → l[i]?=some x → (Go.Proofs.YtifdakibkadfiaaGreatDoor.zu.getD p [])[i]?=some kd → Go.Proofs.YtifdakibkadfiaaGreatDoor.zT (toG x) kd=false) → (l.any fun x=>x.k == 0)=false → Good Tryz.prog 114 [cS name,.c (qk l)] [] (qY (ve name l).1 (ve name l).2) []:=fun h h2=>by
  have e:ve name l=unG (Go.Proofs.YtifdakibkadfiaaGreatDoor.doF p (l.map toG)):=by rw [eBase,if_neg (hno h),if_neg (by simp [h2])]
  rw [e]
  have hD:=ziS p hp9 l hlen (List.all_eq_true.1 hok) (fun x hx h3=>by
   have:=List.any_eq_false.1 h2 x hx
   simp [h3] at this) hi hs (fun j x kd g1 g2=>h j x kd (List.getElem?_eq_some_iff.1 g1).1 g1 g2)
  rw [← hname] at hD
  exact hD
 clear eBase hz hno
 generalize ve name l=R at eBad eNull eDo
 refine Good.zg TT 4000 Tryz.func79 rfl rfl ?_
 unfold Tryz.f79
 simp only [go_sem,go_sem_proc]
 refine Cl.pure TT 4000 hA rfl rfl ?_
 simp only [go_sem,go_sem_proc]
 refine Cl.pure TT 4000 (ZK l hb) rfl rfl ?_
 simp only [go_sem,hok,c1,q1,q2,hcb,hnb,go_sem_proc]
 refine Lp.at TT 4000 1 (Nat.le_of_ble_eq_true rfl) [false,false,false,false,false,true,false,false,false,false,false,true,true,true,false,false,false,false,false,false,false,false,false,false,false,false,false,false,false,false,false,false,false,false,false,false,false,false,false,false,false,false,false,false,false,false,false,false,false,false,false,false,false,false,false,false,false,false,false,false,false,false,false,false,false,false,false,false,false,false,false,false,false,true,true,true,true,true,true,true,true,true,true,true,true,true,true,true,true,true,true,true,true,true,true,true,true,true] (fun a:Nat × Bool=>l.length - a.1) (fun a=>a.1 ≤ l.length ∧ a.2=(l.take a.1).any (fun x=>x.k == 0) ∧ ∀ (i:Nat) (x:Val) (kd:Int),i < a.1 → l[i]?=some x → (Go.Proofs.YtifdakibkadfiaaGreatDoor.zu.getD p [])[i]?=some kd → Go.Proofs.YtifdakibkadfiaaGreatDoor.zT (toG x) kd=false) (fun a=>[(11,cB a.2),(73,cI a.1)]) (fun _=>[]) ((0,false)) (⟨Nat.zero_le _,rfl,fun i x kd h=>absurd h (Nat.not_lt_zero _)⟩) ?_ ?_
 ·simp only [go_sem,go_sem_proc]
 ·rintro ⟨j,nb⟩ ⟨i1,i2,i3⟩
  simp only at i1 i2 i3
  rcases Nat.lt_or_ge j l.length with hlt | hge
  ·obtain ⟨x,hx,hm,ht,hd⟩:=vj hlt
   have hw:=zh (j:=j) (by omega)
   have hokx:=List.all_eq_true.1 hok x hm
   obtain ⟨kd,hkd⟩:∃ kd,(Go.Proofs.YtifdakibkadfiaaGreatDoor.zu.getD p [])[j]?=some kd:=⟨_,List.getElem?_eq_getElem (by omega)⟩
   obtain ⟨ks,hkl,hK,hB⟩:=zjX p hp9 j kd hkd
   rw [← hname] at hK
   have hH:=zkY ks x.k hkl
   have hany:(l.take (j + 1)).any (fun x=>x.k == 0)=(nb || x.k == 0):=by rw [ht,List.any_append,← i2];simp
   by_cases k0:x.k=0
   ·have k0':(x.k == 0)=true:=by simp [k0]
    have k0n:(x.k != 0)=false:=by simp [k0]
    have hbad:Go.Proofs.YtifdakibkadfiaaGreatDoor.zT (toG x) kd=false:=by unfold Go.Proofs.YtifdakibkadfiaaGreatDoor.zT;rw [show (toG x).k=x.k from rfl,k0n];rfl
    rw [k0',Bool.or_true] at hany
    have hnx:∀ (i:Nat) (y:Val) (kd:Int),i < j + 1 → l[i]?=some y → (Go.Proofs.YtifdakibkadfiaaGreatDoor.zu.getD p [])[i]?=some kd → Go.Proofs.YtifdakibkadfiaaGreatDoor.zT (toG y) kd=false:=fun i y kd' h1 h2 h3=>by
     rcases Nat.lt_or_ge i j with h | h
     ·exact i3 i y kd' h h2 h3
     ·obtain rfl:i=j:=by omega
      rw [hx] at h2;cases h2;rw [hkd] at h3;cases h3;exact hbad
    cases nb
    ·simp only [go_sem,hlt,hx,k0',k0n,hw,go_sem_proc]
     refine Dr.of TT (by kernel_rfl) [] trivial ?_
     simp only [go_sem,k0n,go_sem_proc]
     refine jy.of TT 4000 (qn rfl) ?_
     simp only [go_sem,hw,go_sem_proc]
     exact ⟨(j + 1,true),by simp only;omega,⟨by simp only;omega,by simp only;rw [hany],by simp only;exact hnx⟩,by simp only [go_sem,go_sem_proc]⟩
    ·simp only [go_sem,hlt,hx,k0',k0n,hw,go_sem_proc]
     refine Dr.of TT (by kernel_rfl) [] trivial ?_
     simp only [go_sem,k0n,go_sem_proc]
     refine jy.of TT 4000 (qn rfl) ?_
     simp only [go_sem,hw,go_sem_proc]
     exact ⟨(j + 1,true),by simp only;omega,⟨by simp only;omega,by simp only;rw [hany],by simp only;exact hnx⟩,by simp only [go_sem,go_sem_proc]⟩
   ·have k0':(x.k == 0)=false:=by simp [k0]
    have k0n:(x.k != 0)=true:=by simp [k0]
    rw [k0',Bool.or_false] at hany
    have hBx:=hB x hokx k0
    cases hc:ks.contains x.k
    ·rw [hc] at hBx hH
     have hE:=eBad ⟨j,toG x,kd,by rw [List.getElem?_map,hx];rfl,hkd,hBx⟩
     rw [hE]
     cases nb
     ·skip
      simp only [go_sem,hlt,hx,k0',k0n,hw,go_sem_proc]
      refine Dr.ofC TT (by kernel_rfl) [(113,[cS name,cI j],.c (jQ ks)),(112,[.c (jQ ks),cI x.k],cB false)] ⟨⟨hK,rfl⟩,⟨hH,rfl⟩,trivial⟩ ?_
      simp only [go_sem,k0n,go_sem_proc]
      refine jy.of TT 4000 (qn rfl) ?_
      simp only [go_sem,go_sem_proc]
      exact Le.refl _
     ·skip
      simp only [go_sem,hlt,hx,k0',k0n,hw,go_sem_proc]
      refine Dr.ofC TT (by kernel_rfl) [(113,[cS name,cI j],.c (jQ ks)),(112,[.c (jQ ks),cI x.k],cB false)] ⟨⟨hK,rfl⟩,⟨hH,rfl⟩,trivial⟩ ?_
      simp only [go_sem,k0n,go_sem_proc]
      refine jy.of TT 4000 (qn rfl) ?_
      simp only [go_sem,go_sem_proc]
      exact Le.refl _
    ·rw [hc] at hBx hH
     have hnx:∀ (i:Nat) (y:Val) (kd:Int),i < j + 1 → l[i]?=some y → (Go.Proofs.YtifdakibkadfiaaGreatDoor.zu.getD p [])[i]?=some kd → Go.Proofs.YtifdakibkadfiaaGreatDoor.zT (toG y) kd=false:=fun i y kd' h1 h2 h3=>by
      rcases Nat.lt_or_ge i j with h | h
      ·exact i3 i y kd' h h2 h3
      ·obtain rfl:i=j:=by omega
       rw [hx] at h2;cases h2;rw [hkd] at h3;cases h3;exact hBx
     cases nb
     ·skip
      simp only [go_sem,hlt,hx,k0',k0n,hw,go_sem_proc]
      refine Dr.ofC TT (by kernel_rfl) [(113,[cS name,cI j],.c (jQ ks)),(112,[.c (jQ ks),cI x.k],cB true)] ⟨⟨hK,rfl⟩,⟨hH,rfl⟩,trivial⟩ ?_
      simp only [go_sem,k0n,go_sem_proc]
      refine jy.of TT 4000 (qn rfl) ?_
      simp only [go_sem,hw,go_sem_proc]
      exact ⟨(j + 1,false),by simp only;omega,⟨by simp only;omega,by simp only;rw [hany],by simp only;exact hnx⟩,by simp only [go_sem,go_sem_proc]⟩
     ·skip
      simp only [go_sem,hlt,hx,k0',k0n,hw,go_sem_proc]
      refine Dr.ofC TT (by kernel_rfl) [(113,[cS name,cI j],.c (jQ ks)),(112,[.c (jQ ks),cI x.k],cB true)] ⟨⟨hK,rfl⟩,⟨hH,rfl⟩,trivial⟩ ?_
      simp only [go_sem,k0n,go_sem_proc]
      refine jy.of TT 4000 (qn rfl) ?_
      simp only [go_sem,hw,go_sem_proc]
      exact ⟨(j + 1,true),by simp only;omega,⟨by simp only;omega,by simp only;rw [hany],by simp only;exact hnx⟩,by simp only [go_sem,go_sem_proc]⟩
  ·have:j=l.length:=by omega
   subst this
   rw [List.take_length] at i2
   cases nb
   ·have hD:=eDo (fun i x kd h1 h2 h3=>i3 i x kd h1 h2 h3) i2.symm
    simp only [go_sem,Nat.lt_irrefl,go_sem_proc]
    refine Cl.pure TT 4000 hD rfl rfl ?_
    simp only [go_sem,go_sem_proc]
    exact Le.refl _
   ·have hE:=eNull (fun i x kd h1 h2 h3=>i3 i x kd h1 h2 h3) i2.symm
    rw [hE]
    simp only [go_sem,Nat.lt_irrefl,go_sem_proc]
    exact Le.refl _
end Go.Ev
end
section
open Go Go.Proofs Go.RowKit
namespace Go.Ev
open Go.Proofs.YtifdakibkadfiaaGreatDoor (GV zx VS zY kD)
theorem zfp {x:Val} (h:x.ok=true) (hk:x.k=0):x=zeroV:=by
 obtain ⟨k,i,s⟩:=x
 simp only at hk
 subst hk
 have h2:((i == 0) && (s.size == 0))=true:=by
  unfold Val.ok at h
  simpa using h
 simp only [Bool.and_eq_true,beq_iff_eq] at h2
 have hs:s=⟨#[]⟩:=zet (by omega)
 rw [h2.1,hs];rfl
theorem zg0 (name:ByteArray) (l:List Val) (hb:l.length ≤ 1000000) (lo hI:Int) (hok:l.all Val.ok=true) (hA:Good Tryz.prog 110 [cS name] [] (zmq (lo,hI,true)) [])
  (har:Go.Proofs.YtifdakibkadfiaaGreatDoor.zW name.toList=(lo,hI,true)) (c1:¬ (l.length:Int) < lo) (c2:¬ (0 ≤ hI ∧ hI < (l.length:Int))) (hco:(name.toList == Go.Proofs.YtifdakibkadfiaaGreatDoor.qj)=true) :
  Good Tryz.prog 79 [cS name,.c (qk l)] [] (qY (ve name l).1 (ve name l).2) []:=by
 have hcb:(name.toList == (⟨#[99,111,97,108,101,115,99,101]⟩:ByteArray).toList)=(name.toList == Go.Proofs.YtifdakibkadfiaaGreatDoor.qj):=by rw [bsl [99,111,97,108,101,115,99,101]];rfl
 rw [hco] at hcb
 obtain ⟨rfl,rfl⟩:lo=1 ∧ hI = -1:=by
  unfold Go.Proofs.YtifdakibkadfiaaGreatDoor.zW at har
  rw [if_pos (eq_of_beq hco)] at har
  simp only [Prod.mk.injEq] at har
  exact ⟨har.1.symm,har.2.1.symm⟩
 have eBase:ve name l=unG ((l.map toG).getD (max (Go.Proofs.YtifdakibkadfiaaGreatDoor.idxOf (fun v:GV=>v.k != 0) (l.map toG)) 0).toNat GV.none,0):=by
  unfold ve Go.Proofs.YtifdakibkadfiaaGreatDoor.VJ
  rw [zbq,hok,har,if_neg (by simp),if_neg (by simp),if_neg (by simpa using c1),if_neg (by simp),if_pos hco]
 have eHit:∀ (j:Nat) x,l[j]?=some x → x.k ≠ 0 → (∀ (i:Nat) y,i < j → l[i]?=some y → y.k=0) → ve name l=(x,0):=fun j x hx k0 i2=>by
  have hfi:l.findIdx? (fun x=>x.k != 0)=some j:=by
   rw [List.findIdx?_eq_some_iff_getElem]
   obtain ⟨g1,g2⟩:=List.getElem?_eq_some_iff.1 hx
   refine ⟨g1,by rw [g2];simpa using k0,fun i hi=>?_⟩
   have:=i2 i (l[i]'(by omega)) hi (List.getElem?_eq_getElem _)
   simp [this]
  rw [eBase,zhi,hfi]
  simp only []
  rw [show (max ((j:Nat):Int) 0).toNat=j by omega,zbc,List.getD_eq_getElem?_getD,hx];rfl
 have eEnd:(∀ (i:Nat) y,i < l.length → l[i]?=some y → y.k=0) → ve name l=(zeroV,0):=fun i2=>by
  have hfi:l.findIdx? (fun x=>x.k != 0)=none:=by
   rw [List.findIdx?_eq_none_iff]
   intro x hx
   obtain ⟨i,hi,rfl⟩:=List.getElem_of_mem hx
   have:=i2 i _ hi (List.getElem?_eq_getElem hi)
   simp [this]
  have hz:l.getD 0 zeroV=zeroV:=by
   rw [List.getD_eq_getElem?_getD]
   cases h0:l[0]? with
   | none=>rfl
   | some x =>
    have hk:=i2 0 x (List.getElem?_eq_some_iff.1 h0).1 h0
    have hok0:=List.all_eq_true.1 hok x (List.mem_of_getElem? h0)
    exact zfp hok0 hk
  rw [eBase,zhi,hfi]
  show unG ((List.map toG l).getD 0 GV.none,0)=_
  rw [zbc,hz];rfl
 clear eBase
 generalize ve name l=R at eHit eEnd
 have q1:¬ ((-1:Int) ≥ 0):=by decide
 refine Good.zg TT 4000 Tryz.func79 rfl rfl ?_
 unfold Tryz.f79
 simp only [go_sem,go_sem_proc]
 refine Cl.pure TT 4000 hA rfl rfl ?_
 simp only [go_sem,go_sem_proc]
 refine Cl.pure TT 4000 (ZK l hb) rfl rfl ?_
 simp only [go_sem,hok,c1,q1,hcb,go_sem_proc]
 refine Lp.at TT 4000 1 (Nat.le_of_ble_eq_true rfl) [false,false,false,false,false,true,false,false,false,false,true,false,false,false,false,false,false,false,false,false,false,false,false,false,false,false,false,false,false,false,false,false,false,false,false,false,false,false,false,false,false,false,false,false,false,false,false,false,true,true,true,true,true,true,true,true,true] (fun j:Nat=>l.length - j) (fun j=>j ≤ l.length ∧ ∀ (i:Nat) x,i < j → l[i]?=some x → x.k=0) (fun j=>[(48,cI j)]) (fun _=>[]) (0) (⟨Nat.zero_le _,fun i x h=>absurd h (Nat.not_lt_zero _)⟩) ?_ ?_
 ·simp only [go_sem,go_sem_proc]
 ·rintro j ⟨i1,i2⟩
  rcases Nat.lt_or_ge j l.length with hlt | hge
  ·obtain ⟨x,hx,hm,ht,hd⟩:=vj hlt
   have hw:=zh (j:=j) (by omega)
   by_cases k0:x.k=0
   ·have k0':(x.k != 0)=false:=by simp [k0]
    simp only [go_sem,hlt,hx,k0',hw,go_sem_proc]
    refine ⟨j + 1,by omega,⟨by omega,fun i y hi hy=>?_⟩,zq.of_eq rfl⟩
    rcases Nat.lt_or_ge i j with h | h
    ·exact i2 i y h hy
    ·obtain rfl:i=j:=by omega
     rw [hx] at hy;cases hy;exact k0
   ·have k0':(x.k != 0)=true:=by simp [k0]
    rw [eHit j x hx k0 i2]
    simp only [go_sem,hlt,hx,k0',go_sem_proc]
    exact Le.refl _
  ·have:j=l.length:=by omega
   subst this
   rw [eEnd i2]
   simp only [go_sem,Nat.lt_irrefl,go_sem_proc]
   exact Le.refl _
theorem Yz (name:ByteArray) (l:List Val) (hb:l.length ≤ 1000000) (lo hI:Int) (hok:l.all Val.ok=true) (hA:Good Tryz.prog 110 [cS name] [] (zmq (lo,hI,true)) [])
  (har:Go.Proofs.YtifdakibkadfiaaGreatDoor.zW name.toList=(lo,hI,true)) (c1:¬ (l.length:Int) < lo) (c2:¬ (0 ≤ hI ∧ hI < (l.length:Int))) (hco:(name.toList == Go.Proofs.YtifdakibkadfiaaGreatDoor.qj)=false) (hnu:(name.toList == Go.Proofs.YtifdakibkadfiaaGreatDoor.vd)=true) :
  Good Tryz.prog 79 [cS name,.c (qk l)] [] (qY (ve name l).1 (ve name l).2) []:=by
 have hcb:(name.toList == (⟨#[99,111,97,108,101,115,99,101]⟩:ByteArray).toList)=(name.toList == Go.Proofs.YtifdakibkadfiaaGreatDoor.qj):=by rw [bsl [99,111,97,108,101,115,99,101]];rfl
 rw [hco] at hcb
 have hnb:(name.toList == (⟨#[110,117,108,108,105,102]⟩:ByteArray).toList)=(name.toList == Go.Proofs.YtifdakibkadfiaaGreatDoor.vd):=by rw [bsl [110,117,108,108,105,102]];rfl
 rw [hnu] at hnb
 have hcoP:¬ name.toList=Go.Proofs.YtifdakibkadfiaaGreatDoor.qj:=beq_eq_false_iff_ne.1 hco
 obtain ⟨rfl,rfl⟩:lo=2 ∧ hI=2:=by
  unfold Go.Proofs.YtifdakibkadfiaaGreatDoor.zW at har
  rw [if_neg hcoP,if_pos (eq_of_beq hnu)] at har
  simp only [Prod.mk.injEq] at har
  exact ⟨har.1.symm,har.2.1.symm⟩
 obtain ⟨x,y,rfl⟩:∃ x y,l=[x,y]:=by
  have h2:l.length=2:=by omega
  match l,h2 with
  | [x,y],_=>exact ⟨x,y,rfl⟩
 have eV:ve name [x,y]=(if x.same y then zeroV else x,0):=by
  unfold ve Go.Proofs.YtifdakibkadfiaaGreatDoor.VJ
  rw [zbq,hok,har,if_neg (by simp),if_neg (by simp),if_neg (by simp),if_neg (by simp),if_neg (by simp [hco]),if_pos hnu]
  show unG (if x.same y=true then GV.none else toG x,0)=_
  cases x.same y <;> rfl
 have hS:=JN x y
 have q1:(2:Int) ≥ 0:=by decide
 have q2:¬ (((2:Nat):Int) > 2):=by decide
 have q3:¬ (((2:Nat):Int) < 2):=by decide
 have q4:(0:Int) < ((2:Nat):Int):=by decide
 have q5:(1:Int) < ((2:Nat):Int):=by decide
 rw [eV]
 generalize x.same y=sm at hS
 refine Good.zg TT 4000 Tryz.func79 rfl rfl ?_
 unfold Tryz.f79
 simp only [go_sem,go_sem_proc]
 refine Cl.pure TT 4000 hA rfl rfl ?_
 simp only [go_sem,go_sem_proc]
 refine Cl.pure TT 4000 (ZK [x,y] hb) rfl rfl ?_
 simp only [go_sem,hok,q1,q2,q3,hcb,hnb,go_sem_proc]
 refine Dr.of TT (by kernel_rfl) [(89,[x.av,y.av],cB sm)] ⟨⟨hS,rfl⟩,trivial⟩ ?_
 simp only [go_sem,q4,q5,go_sem_proc]
 refine jy.of TT 4000 (qn rfl) ?_
 cases sm
 ·simp only [go_sem,q4,go_sem_proc]
  exact Le.refl _
 ·simp only [go_sem,go_sem_proc]
  exact Le.refl _
theorem zh6 (name:ByteArray) (l:List Val) (hb:l.length ≤ 1000000) (hi:∀ x,x ∈ l → I64 x.i) (hs:∀ x,x ∈ l → x.s.size ≤ 10000000):Good Tryz.prog 79 [cS name,.c (qk l)] [] (qY (ve name l).1 (ve name l).2) []:=by
 have hA:=zgi name
 obtain ⟨lo,hI,is,har⟩:∃ lo hI is,Go.Proofs.YtifdakibkadfiaaGreatDoor.zW name.toList=(lo,hI,is):=⟨_,_,_,rfl⟩
 rw [har] at hA
 have bad:(l.all Val.ok=false ∨ is=false ∨ (l.length:Int) < lo ∨ (0 ≤ hI ∧ hI < (l.length:Int))) → ve name l=(zeroV,1):=fun h=>by
  unfold ve Go.Proofs.YtifdakibkadfiaaGreatDoor.VJ
  rw [zbq,har]
  cases h1:l.all Val.ok
  ·rfl
  cases h2:is
  ·rfl
  rw [if_neg (by simp),if_neg (by simp)]
  by_cases h3:(l.length:Int) < lo
  ·rw [if_pos (by simpa using h3)];rfl
  rw [if_neg (by simpa using h3)]
  rcases h with h | h | h | h
  ·rw [h1] at h;cases h
  ·rw [h2] at h;cases h
  ·exact absurd h h3
  ·rw [if_pos (by simpa using h)];rfl
 by_cases hbad:l.all Val.ok=false ∨ is=false ∨ (l.length:Int) < lo ∨ (0 ≤ hI ∧ hI < (l.length:Int))
 ·rw [bad hbad]
  refine Good.zg TT 4000 Tryz.func79 rfl rfl ?_
  unfold Tryz.f79
  simp only [go_sem,go_sem_proc]
  refine Cl.pure TT 4000 hA rfl rfl ?_
  simp only [go_sem,go_sem_proc]
  refine Cl.pure TT 4000 (ZK l hb) rfl rfl ?_
  cases hok:l.all Val.ok
  ·simp only [go_sem,go_sem_proc]
   exact Le.refl _
  cases hiss:is
  ·simp only [go_sem,go_sem_proc]
   exact Le.refl _
  rw [hok,hiss] at hbad
  by_cases h3:(l.length:Int) < lo
  ·simp only [go_sem,h3,go_sem_proc]
   exact Le.refl _
  have h4:0 ≤ hI ∧ hI < (l.length:Int):=by
   rcases hbad with h | h | h | h
   ·cases h
   ·cases h
   ·exact absurd h h3
   ·exact h
  have h5:hI ≥ 0:=h4.1
  have h6:(l.length:Int) > hI:=h4.2
  simp only [go_sem,h3,h5,h6,go_sem_proc]
  exact Le.refl _
 ·have hok:l.all Val.ok=true:=by
   cases h:l.all Val.ok
   ·exact absurd (.inl h) hbad
   ·rfl
  have hiss:is=true:=by
   cases h:is
   ·exact absurd (.inr (.inl h)) hbad
   ·rfl
  subst hiss
  have c1:¬ (l.length:Int) < lo:=fun h=>hbad (.inr (.inr (.inl h)))
  have c2:¬ (0 ≤ hI ∧ hI < (l.length:Int)):=fun h=>hbad (.inr (.inr (.inr h)))
  cases hco:(name.toList == Go.Proofs.YtifdakibkadfiaaGreatDoor.qj)
  ·cases hnu:(name.toList == Go.Proofs.YtifdakibkadfiaaGreatDoor.vd)
   ·exact zcM name l hb hi hs lo hI hok hA har c1 c2 hco hnu
   ·exact Yz name l hb lo hI hok hA har c1 c2 hco hnu
  ·exact zg0 name l hb lo hI hok hA har c1 c2 hco
end Go.Ev
end
