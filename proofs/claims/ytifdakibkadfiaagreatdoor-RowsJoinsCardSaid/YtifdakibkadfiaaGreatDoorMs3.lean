import Derived.Test.YtifdakibkadfiaaGreatDoorMg1
import Derived.Test.YtifdakibkadfiaaGreatDoorMe6
import Derived.Test.YtifdakibkadfiaaGreatDoorMs1
set_option linter.all false
set_option maxRecDepth 100000
set_option maxHeartbeats 8000000
section
namespace Go.Proofs.YtifdakibkadfiaaGreatDoor
open Go.RowKit Go.Shelf Go
theorem zx.zep {n n':Int} {q q':Bool} {w w':World} (h:n'=n) (h2:q'=q) (hb:Below w.heap.size w w'):zx (.tuple #[.int .i64 n,.bool q]) w (.returned (.tuple #[.int .i64 n',.bool q'])) w':=⟨by rw [h,h2],hb⟩
theorem Q9:wrap64 0=0:=by unfold wrap64;omega
theorem zc7 (a b:Int) (_ha:I64 a) (hb:I64 b) (h0:b ≠ 0) (h1:b ≠ -1):(wrap64 ((wrap64 (a * b)).tdiv b) == a)=fits (a * b):=by
 have hin2:I64 (wrap64 (a * b)):=by unfold I64 wrap64;omega
 rw [jb (KU _ b hin2 (fun h=>h1 h.2) h0)]
 cases hf:fits (a * b) with
 | true =>
  rw [jb hf,Int.mul_tdiv_cancel _ h0,beq_self_eq_true]
 | false =>
  refine beq_eq_false_iff_ne.2 fun he=>?_
  have hr:=Int.mul_tdiv_add_tmod (wrap64 (a * b)) b
  rw [he] at hr
  have hm:((wrap64 (a * b)).tmod b).natAbs < b.natAbs:=by
   rw [Int.natAbs_tmod]
   exact Nat.mod_lt _ (by omega)
  have hk:∃ k:Int,wrap64 (a * b)=a * b + k * 18446744073709551616:=⟨-((a * b + 9223372036854775808) / 18446744073709551616),by unfold wrap64;omega⟩
  obtain ⟨k,hk⟩:=hk
  rw [Int.mul_comm b a] at hr
  have hbb:b.natAbs ≤ 9223372036854775808:=by unfold I64 at hb;omega
  generalize hz:(wrap64 (a * b)).tmod b=r at *
  have:k=0:=by omega
  rw [this] at hk
  have hw:wrap64 (a * b)=a * b:=by omega
  have hin:fits (wrap64 (a * b))=true:=by unfold fits wrap64;exact decide_eq_true (by omega)
  rw [hw,hf] at hin
  cases hin
theorem zhk (a b:Int) (w:World) (ha:I64 a) (hb:I64 b) :
  Calls Tryz.prog 192 #[.int .i64 a,.int .i64 b] w (zx (.tuple #[.int .i64 (wrap64 (a * b)),.bool (fits (a * b))]) w):=by
 have HA:=Lib.hid ha
 have HB:=Lib.hid hb
 by_cases h0:a=0
 ·subst h0
  go_enter Tryz.func192,Tryz.ntmps192
  go_wp2
  go_returns
  exact zx.zep (by rw [Int.zero_mul];exact Q9.symm) (by rw [Int.zero_mul];rfl) (Below.refl _ _)
 have h0':(a == 0)=false:=beq_eq_false_iff_ne.2 h0
 have H0:=Lib.hid h0
 by_cases g0:b=0
 ·subst g0
  clear h0
  go_enter Tryz.func192,Tryz.ntmps192
  go_wp2
  go_returns
  exact zx.zep (by rw [Int.mul_zero];exact Q9.symm) (by rw [Int.mul_zero];rfl) (Below.refl _ _)
 have g0':(b == 0)=false:=beq_eq_false_iff_ne.2 g0
 have G0:=Lib.hid g0
 by_cases h1:a = -1
 ·subst h1
  clear h0 g0 h0' H0
  go_enter Tryz.func192,Tryz.ntmps192
  go_wp2
  all_goals go_returns
  all_goals refine zx.zep ?_ ?_ (Below.refl _ _)
  all_goals (have hbb:=HB.out;unfold I64 at hbb;clear HA HB ha hb)
  all_goals first | (unfold wrap64;omega) | skip
  all_goals (unfold fits;first | exact (decide_eq_true (by omega)).symm | exact (decide_eq_false (by omega)).symm | (rw [Bool.eq_iff_iff];simp;omega))
 have h1':(a == -1)=false:=beq_eq_false_iff_ne.2 h1
 by_cases g1:b = -1
 ·subst g1
  clear h0 g0 h1
  go_enter Tryz.func192,Tryz.ntmps192
  go_wp2
  all_goals go_returns
  all_goals refine zx.zep ?_ ?_ (Below.refl _ _)
  all_goals (have hbb:=HA.out;unfold I64 at hbb;clear HA HB ha hb)
  all_goals first | (unfold wrap64;omega) | skip
  all_goals (unfold fits;first | exact (decide_eq_true (by omega)).symm | exact (decide_eq_false (by omega)).symm | (rw [Bool.eq_iff_iff];simp;omega))
 have g1':(b == -1)=false:=beq_eq_false_iff_ne.2 g1
 have HT:=Lib.hid (zc7 a b ha hb g0 g1)
 clear h0 h1 g1 ha hb
 go_enter Tryz.func192,Tryz.ntmps192
 go_wp2_with fail
 go_quiet (fail)
 go_wp2
 all_goals go_returns
 exact zx.zep rfl HT.out (yo (Below.refl _ _) _)
theorem zit (a b:Int) (ha:I64 a) (hb:I64 b):(decide (b ≥ 0) == decide (wrap64 (a + b) ≥ a))=fits (a + b):=by
 rw [YF]
 unfold fits
 unfold I64 at ha hb
 refine decide_eq_decide.2 ?_
 unfold wrap64
 omega
theorem zjg (a b:Int) (ha:I64 a) (hb:I64 b):(decide (b ≥ 0) == decide (wrap64 (a - b) ≤ a))=fits (a - b):=by
 rw [YF]
 unfold fits
 unfold I64 at ha hb
 refine decide_eq_decide.2 ?_
 unfold wrap64
 omega
theorem zaA {n m:Int} (h:(!fits n)=true):over n=(0,30):=by
 have:fits n=false:=by simpa using h
 unfold over;rw [this];rfl
theorem QP {n m:Int} (h:(!fits n)=false) (hm:m=wrap64 n):over n=(m,0):=by
 have:fits n=true:=by simpa using h
 unfold over;rw [this,hm,jb this];rfl
theorem Wk (a b:Int) (w:World) (ha:I64 a) (hb:I64 b) :
  Calls Tryz.prog 173 #[.string ⟨#[43]⟩,.int .i64 a,.int .i64 b] w (zx (.tuple #[.int .i64 (zm [43] a b).1,.int .i64 (zm [43] a b).2]) w):=by
 rw [show zm [43] a b=over (a + b) from rfl]
 have hf:Hid ((decide (0 ≤ b) == decide (a ≤ wrap64 (a + b)))=fits (a + b)):=Lib.hid (zit a b ha hb)
 clear ha hb
 go_enter Tryz.func173,Tryz.ntmps173
 go_wp2
 all_goals go_returns
 all_goals (refine zx.pair ?_ (Below.refl _ _);rename_i h;rw [hf.out] at h)
 all_goals first | exact zaA (m:=0) h | exact QP h rfl
theorem y7 (a b:Int) (w:World) (ha:I64 a) (hb:I64 b) :
  Calls Tryz.prog 173 #[.string ⟨#[45]⟩,.int .i64 a,.int .i64 b] w (zx (.tuple #[.int .i64 (zm [45] a b).1,.int .i64 (zm [45] a b).2]) w):=by
 rw [show zm [45] a b=over (a - b) from rfl]
 have hf:Hid ((decide (0 ≤ b) == decide (wrap64 (a - b) ≤ a))=fits (a - b)):=Lib.hid (zjg a b ha hb)
 clear ha hb
 go_enter Tryz.func173,Tryz.ntmps173
 go_wp2
 all_goals go_returns
 all_goals (refine zx.pair ?_ (Below.refl _ _);rename_i h;rw [hf.out] at h)
 all_goals first | exact zaA (m:=0) h | exact QP h rfl
theorem J8 (a b:Int) (w:World) (ha:I64 a) (hb:I64 b) :
  Calls Tryz.prog 173 #[.string ⟨#[42]⟩,.int .i64 a,.int .i64 b] w (zx (.tuple #[.int .i64 (zm [42] a b).1,.int .i64 (zm [42] a b).2]) w):=by
 rw [show zm [42] a b=over (a * b) from rfl]
 have hc:=zhk a b w ha hb
 clear ha hb
 cases hq:fits (a * b) with
 | false =>
  rw [hq] at hc
  have HQ:=Lib.hid hq;clear hq
  go_enter Tryz.func173,Tryz.ntmps173
  go_wp2_with fail
  refine hc.mono ?_
  rintro e w1 ⟨rfl,hb1⟩
  go_wp2
  go_returns
  exact zx.pair (show over (a * b)=(0,30) from zaA (m:=0) (by rw [HQ.out];rfl)) hb1
 | true =>
  rw [hq] at hc
  have HQ:=Lib.hid hq;clear hq
  go_enter Tryz.func173,Tryz.ntmps173
  go_wp2_with fail
  refine hc.mono ?_
  rintro e w1 ⟨rfl,hb1⟩
  go_wp2
  go_returns
  exact zx.pair (show over (a * b)=(wrap64 (a * b),0) from QP (by rw [HQ.out];rfl) rfl) hb1
theorem Wh (a b:Int) (w:World) :
  Calls Tryz.prog 173 #[.string ⟨#[37]⟩,.int .i64 a,.int .i64 b] w (zx (.tuple #[.int .i64 (zm [37] a b).1,.int .i64 (zm [37] a b).2]) w):=by
 rw [Ku]
 by_cases h0:b=0
 ·subst h0
  rw [if_pos rfl]
  go_enter Tryz.func173,Tryz.ntmps173
  go_wp2
  go_returns
  exact zx.pair rfl (Below.refl _ _)
 by_cases h1:b = -1
 ·subst h1
  clear h0
  rw [if_neg (by decide),if_pos rfl]
  go_enter Tryz.func173,Tryz.ntmps173
  go_wp2
  go_returns
  exact zx.pair rfl (Below.refl _ _)
 ·rw [if_neg h0,if_neg h1]
  have h0':(b == 0)=false:=beq_eq_false_iff_ne.2 h0
  have h1':(b == -1)=false:=beq_eq_false_iff_ne.2 h1
  clear h1
  go_enter Tryz.func173,Tryz.ntmps173
  go_wp2
  go_returns
  exact zx.pair rfl (Below.refl _ _)
theorem J2 (a b:Int) (w:World) (ha:I64 a) :
  Calls Tryz.prog 173 #[.string ⟨#[47]⟩,.int .i64 a,.int .i64 b] w (zx (.tuple #[.int .i64 (zm [47] a b).1,.int .i64 (zm [47] a b).2]) w):=by
 rw [Q2]
 by_cases h0:b=0
 ·subst h0
  rw [if_pos rfl]
  clear ha
  go_enter Tryz.func173,Tryz.ntmps173
  go_wp2
  go_returns
  exact zx.pair rfl (Below.refl _ _)
 by_cases h1:b = -1
 ·subst h1
  clear h0
  have hc:=y7 0 a w (by unfold I64;omega) ha
  rw [show zm [45] 0 a=over (0 - a) from rfl] at hc
  rw [if_neg (by decide),Int.tdiv_neg,Int.tdiv_one,show -a=0 - a from (Int.zero_sub a).symm]
  clear ha
  generalize over (0 - a)=p at hc ⊢
  obtain ⟨n,er⟩:=p
  go_enter Tryz.func173,Tryz.ntmps173
  go_wp2_with fail
  refine hc.mono ?_
  rintro e w1 ⟨rfl,hb1⟩
  go_wp2
  go_returns
  exact zx.pair rfl hb1
 ·rw [if_neg h0]
  have hf:=Lib.hid (KU a b ha (fun h=>h1 h.2) h0)
  have h0':(b == 0)=false:=beq_eq_false_iff_ne.2 h0
  have h1':(b == -1)=false:=beq_eq_false_iff_ne.2 h1
  clear h1 ha
  go_enter Tryz.func173,Tryz.ntmps173
  go_wp2
  go_returns
  exact zx.pair (show over (a.tdiv b)=(wrap64 (a.tdiv b),0) from QP (by rw [hf.out];rfl) rfl) (Below.refl _ _)
end Go.Proofs.YtifdakibkadfiaaGreatDoor
end
section
open Go Go.Proofs Go.RowKit
namespace Go.Ev
open Go.Proofs.YtifdakibkadfiaaGreatDoor (GV zx VS zY kD)
theorem ZK (l:List Val) (hb:l.length ≤ 1000000):Good Tryz.prog 111 [.c (qk l)] [] (cB (l.all Val.ok)) []:=by
 refine Good.zg TT 4000 Tryz.func111 rfl rfl ?_
 unfold Tryz.f111
 simp only [go_sem,go_sem_proc]
 refine Lp.at TT 4000 0 (Nat.le_of_ble_eq_true rfl) [false,false,true,false,true,false,false,true,true,true,true,true,true,true,true] (fun j:Nat=>l.length - j) (fun j=>j ≤ l.length ∧ (l.take j).all Val.ok=true) (fun j=>[(7,cI j)]) (fun _=>[]) (0) (⟨Nat.zero_le _,rfl⟩) ?_ ?_
 ·simp only [go_sem,go_sem_proc]
 ·rintro j ⟨i1,i2⟩
  rcases Nat.lt_or_ge j l.length with hlt | hge
  ·obtain ⟨x,hx,hm,ht,hd⟩:=vj hlt
   have hw:=zh (j:=j) (by omega)
   simp only [go_sem,hlt,hx,go_sem_proc]
   refine Cl.pure TT 4000 (ZA x) rfl rfl ?_
   cases hk:x.ok
   ·have:l.all Val.ok=false:=List.all_eq_false.2 ⟨x,hm,by rw [hk];simp⟩
    simp only [go_sem,hk,this,Bool.false_eq_true,go_sem_proc]
   ·simp only [go_sem,hk,hw,go_sem_proc]
    exact ⟨j + 1,by omega,⟨by omega,by rw [ht,List.all_append,i2];simp [hk]⟩,zq.of_eq rfl⟩
  ·have:j=l.length:=by omega
   subst this
   rw [List.take_length] at i2
   simp only [go_sem,Nat.lt_irrefl,i2,go_sem_proc]
theorem Good.zmw {P:Program} {f:FuncId} {args:List AV} {p:Int × Int} (hen:∀ (args:Array Value) (w:World),(callFunc f args).run P w = .ok (.enter f args) w)
  (hc:∀ (w:World) (N:Nat → Prop) (ρ:Nat → Pl) (vs:List Value),zw N [] ρ w → args.length=vs.length → (∀ (i:Nat) (h1:i < args.length) (h2:i < vs.length),zo w N ρ args[i] vs[i]) → Calls P f vs.toArray w (zx (.tuple #[.int .i64 p.1,.int .i64 p.2]) w)):Good P f args [] (.tup [cI p.1,cI p.2]) []:=by
 intro w N ρ vs H hs hl hr
 refine .inl ⟨hen _ _,(hc w N ρ vs H hl hr).mono ?_⟩
 rintro e w' ⟨rfl,hbel⟩
 obtain ⟨H',K'⟩:=H.made ⟨hbel.os,hbel.tape,hbel.output,hbel.size,fun b hb=>hbel.block b hb⟩
 refine ⟨_,rfl,⟨⟨N,ρ,H',.tup _ [.int .i64 p.1,.int .i64 p.2] rfl fun i a b=>?_,K',rfl⟩⟩⟩
 match i,a,b with
 | 0,_,_=>exact .c (.int _ _)
 | 1,_,_=>exact .c (.int _ _)
theorem zgF {w:World} {N:Nat → Prop} {ρ:Nat → Pl} {n:Int} {x:Value} (h:zo w N ρ (cI n) x):x = .int .i64 n:=by
 cases h with | c h=>cases h;rfl
def Qv:List (List UInt8):=[[43],[45],[42],[47],[37]]
theorem xJ (op:ByteArray) (ho:op.toList ∈ Qv) (a b:Int) (ha:I64 a) (hb:I64 b):Good Tryz.prog 173 [cS op,cI a,cI b] [] (.tup [cI (Go.Proofs.YtifdakibkadfiaaGreatDoor.zm op.toList a b).1,cI (Go.Proofs.YtifdakibkadfiaaGreatDoor.zm op.toList a b).2]) []:=
 Good.zmw (enters_of Tryz.func173 (by kernel_rfl) rfl) fun w N ρ vs H hl hr=>by
  obtain ⟨x,y,z,rfl⟩:∃ x y z,vs=[x,y,z]:=by match vs,hl with | [x,y,z],_=>exact ⟨x,y,z,rfl⟩
  have h0:=Jz (hr 0 (by simp) (by simp))
  have h1:=zgF (hr 1 (by simp) (by simp))
  have h2:=zgF (hr 2 (by simp) (by simp))
  simp only [List.getElem_cons_zero,List.getElem_cons_succ] at h0 h1 h2
  subst h0 h1 h2
  simp only [Qv,List.mem_cons,List.not_mem_nil,or_false] at ho
  rcases ho with h | h | h | h | h
  ·rw [h];obtain rfl:=Go.Proofs.YtifdakibkadfiaaGreatDoor.zO (h.trans (bsl [43]).symm)
   exact Go.Proofs.YtifdakibkadfiaaGreatDoor.Wk a b w ha hb
  ·rw [h];obtain rfl:=Go.Proofs.YtifdakibkadfiaaGreatDoor.zO (h.trans (bsl [45]).symm)
   exact Go.Proofs.YtifdakibkadfiaaGreatDoor.y7 a b w ha hb
  ·rw [h];obtain rfl:=Go.Proofs.YtifdakibkadfiaaGreatDoor.zO (h.trans (bsl [42]).symm)
   exact Go.Proofs.YtifdakibkadfiaaGreatDoor.J8 a b w ha hb
  ·rw [h];obtain rfl:=Go.Proofs.YtifdakibkadfiaaGreatDoor.zO (h.trans (bsl [47]).symm)
   exact Go.Proofs.YtifdakibkadfiaaGreatDoor.J2 a b w ha
  ·rw [h];obtain rfl:=Go.Proofs.YtifdakibkadfiaaGreatDoor.zO (h.trans (bsl [37]).symm)
   exact Go.Proofs.YtifdakibkadfiaaGreatDoor.Wh a b w
theorem zA (op:ByteArray) (a b:Val):zN op a b=if (a.ok && b.ok)=false then (zeroV,1) else if op.toList ∉ Qv then (zeroV,1) else if a.k ≠ 0 ∧ a.k ≠ 2 then (zeroV,20) else if b.k ≠ 0 ∧ b.k ≠ 2 then (zeroV,20)
  else if a.k=0 ∨ b.k=0 then (zeroV,0) else if (Go.Proofs.YtifdakibkadfiaaGreatDoor.zm op.toList a.i b.i).2 ≠ 0 then (zeroV,(Go.Proofs.YtifdakibkadfiaaGreatDoor.zm op.toList a.i b.i).2) else (⟨2,(Go.Proofs.YtifdakibkadfiaaGreatDoor.zm op.toList a.i b.i).1,⟨#[]⟩⟩,0):=by
 unfold zN Go.Proofs.YtifdakibkadfiaaGreatDoor.k9
 rw [yd,yd]
 cases a.ok && b.ok
 ·rfl
 by_cases ho:op.toList ∈ Qv
 ·have hs:Go.Proofs.YtifdakibkadfiaaGreatDoor.ZP.contains op.toList=true:=by
   rw [List.contains_iff_mem];exact ho
  simp only [hs,Bool.not_true,Bool.false_eq_true,if_false,ho,not_true_eq_false,Bool.true_eq_false]
  show unG (if ((a.k != 0 && a.k != 2)=true) then _ else if ((b.k != 0 && b.k != 2)=true) then _ else if ((a.k == 0 || b.k == 0)=true) then _ else if (((Go.Proofs.YtifdakibkadfiaaGreatDoor.zm op.toList a.i b.i).2 != 0)=true) then _ else _)=_
  by_cases c1:a.k ≠ 0 ∧ a.k ≠ 2
  ·rw [if_pos (by simpa using c1),if_pos c1];rfl
  rw [if_neg (by simpa using c1),if_neg c1]
  by_cases c2:b.k ≠ 0 ∧ b.k ≠ 2
  ·rw [if_pos (by simpa using c2),if_pos c2];rfl
  rw [if_neg (by simpa using c2),if_neg c2]
  by_cases c3:a.k=0 ∨ b.k=0
  ·rw [if_pos (by simpa using c3),if_pos c3];rfl
  rw [if_neg (by simpa using c3),if_neg c3]
  by_cases c4:(Go.Proofs.YtifdakibkadfiaaGreatDoor.zm op.toList a.i b.i).2 ≠ 0
  ·rw [if_pos (by simpa using c4),if_pos c4];rfl
  ·rw [if_neg (by simpa using c4),if_neg c4];rfl
 ·have hs:Go.Proofs.YtifdakibkadfiaaGreatDoor.ZP.contains op.toList=false:=by
   cases h:Go.Proofs.YtifdakibkadfiaaGreatDoor.ZP.contains op.toList
   ·rfl
   ·rw [List.contains_iff_mem] at h;exact absurd h ho
  simp only [hs,Bool.not_true,Bool.not_false,Bool.false_eq_true,if_false,if_true,ho,not_false_eq_true,Bool.true_eq_false];rfl
theorem W1 (op:ByteArray) (a b:Val) (ha:I64 a.i) (hb:I64 b.i):Good Tryz.prog 121 [cS op,a.av,b.av] [] (qY (zN op a b).1 (zN op a b).2) []:=by
 refine Good.zg TT 4000 Tryz.func121 rfl rfl ?_
 unfold Tryz.f121
 simp only [go_sem,go_sem_proc]
 refine Cl.pure TT 4000 (ZK [a,b] (by simp)) rfl rfl ?_
 have hall:List.all [a,b] Val.ok=(a.ok && b.ok):=by simp
 rw [hall]
 cases hk:(a.ok && b.ok)
 ·simp only [go_sem,go_sem_proc]
  have eV:zN op a b=(zeroV,1):=by rw [zA,hk,if_pos rfl]
  rw [eV]
  exact Le.refl _
 have hmem:op.toList ∈ Qv ↔ (op.toList=[43] ∨ op.toList=[45] ∨ op.toList=[42] ∨ op.toList=[47] ∨ op.toList=[37]):=by simp [Qv]
 cases o1:(op.toList == (⟨#[43]⟩:ByteArray).toList)
 ·cases o2:(op.toList == (⟨#[45]⟩:ByteArray).toList)
  ·cases o3:(op.toList == (⟨#[42]⟩:ByteArray).toList)
   ·cases o4:(op.toList == (⟨#[47]⟩:ByteArray).toList)
    ·cases o5:(op.toList == (⟨#[37]⟩:ByteArray).toList)
     ·have hm:op.toList ∉ Qv:=by
       rw [hmem]
       rintro (h | h | h | h | h)
       ·exact (beq_eq_false_iff_ne.1 o1) (h.trans (bsl [43]).symm)
       ·exact (beq_eq_false_iff_ne.1 o2) (h.trans (bsl [45]).symm)
       ·exact (beq_eq_false_iff_ne.1 o3) (h.trans (bsl [42]).symm)
       ·exact (beq_eq_false_iff_ne.1 o4) (h.trans (bsl [47]).symm)
       ·exact (beq_eq_false_iff_ne.1 o5) (h.trans (bsl [37]).symm)
      simp only [go_sem,o1,o2,o3,o4,o5,go_sem_proc]
      have eV:zN op a b=(zeroV,1):=by rw [zA,hk,if_neg (by simp),if_pos hm]
      rw [eV]
      exact Le.refl _
     ·have hm:op.toList ∈ Qv:=hmem.2 (.inr (.inr (.inr (.inr ((eq_of_beq o5).trans (bsl [37]))))))
      simp only [go_sem,o1,o2,o3,o4,o5,go_sem_proc]
      refine Lp.at TT 4000 5 (Nat.le_of_ble_eq_true rfl) [false,false,false,false,false,false,false,true,false,true,false,false,false,false,false,false,false,false,false,false,false,false,false,false,false,false,false,false,false,false,false,false,false,false,false,false,false,false,false,false,false,false,true,true,true,true,true,true,true,true,true,true,true,true,true,true] (fun j:Nat=>2 - j) (fun j=>j ≤ 2 ∧ (0 < j → ¬ (a.k ≠ 0 ∧ a.k ≠ 2)) ∧ (1 < j → ¬ (b.k ≠ 0 ∧ b.k ≠ 2))) (fun j=>[(42,cI j)]) (fun _=>[]) (0) (⟨Nat.zero_le _,fun h=>absurd h (Nat.not_lt_zero _),fun h=>absurd h (by omega)⟩) ?_ ?_
      ·simp only [go_sem,go_sem_proc]
      ·rintro j ⟨i1,i2,i3⟩
       have hw0:IntKind.wrap .i64 1=((1:Nat):Int):=rfl
       have hw1:IntKind.wrap .i64 (((1:Nat):Int) + 1)=((2:Nat):Int):=rfl
       have g0:(0:Int) < ((2:Nat):Int):=by decide
       have g1:((1:Nat):Int) < ((2:Nat):Int):=by decide
       match j,i1,i2,i3 with
       | 0,_,_,_ =>
        simp only [go_sem,g0,go_sem_proc]
        by_cases z0:a.k=0
        ·have z0':(a.k != 0)=false:=by simp [z0]
         simp only [go_sem,z0',hw0,hw1,go_sem_proc]
         exact ⟨1,by omega,⟨by omega,by intros;omega,by intros;omega⟩,zq.of_eq rfl⟩
        ·have z0':(a.k != 0)=true:=by simp [z0]
         by_cases z2:a.k=2
         ·have z2':(a.k != 2)=false:=by simp [z2]
          simp only [go_sem,z0',z2',hw0,hw1,go_sem_proc]
          exact ⟨1,by omega,⟨by omega,by intros;omega,by intros;omega⟩,zq.of_eq rfl⟩
         ·have z2':(a.k != 2)=true:=by simp [z2]
          simp only [go_sem,z0',z2',go_sem_proc]
          have eV:zN op a b=(zeroV,20):=by rw [zA,hk,if_neg (by simp),if_neg (by simp [hm])];simp [z0,z2]
          rw [eV]
          exact Le.refl _
       | 1,_,i2,_ =>
        have i2:=i2 (by omega)
        simp only [go_sem,g1,go_sem_proc]
        by_cases z0:b.k=0
        ·have z0':(b.k != 0)=false:=by simp [z0]
         simp only [go_sem,z0',hw0,hw1,go_sem_proc]
         exact ⟨2,by omega,⟨by omega,by intros;omega,by intros;omega⟩,zq.of_eq rfl⟩
        ·have z0':(b.k != 0)=true:=by simp [z0]
         by_cases z2:b.k=2
         ·have z2':(b.k != 2)=false:=by simp [z2]
          simp only [go_sem,z0',z2',hw0,hw1,go_sem_proc]
          exact ⟨2,by omega,⟨by omega,by intros;omega,by intros;omega⟩,zq.of_eq rfl⟩
         ·have z2':(b.k != 2)=true:=by simp [z2]
          simp only [go_sem,z0',z2',go_sem_proc]
          have eV:zN op a b=(zeroV,20):=by rw [zA,hk,if_neg (by simp),if_neg (by simp [hm])];simp [z0,z2]
          rw [eV]
          exact Le.refl _
       | 2,_,i2,i3 =>
        have i2:=i2 (by omega)
        have i3:=i3 (by omega)
        simp only [go_sem,Int.lt_irrefl,go_sem_proc]
        by_cases n0:a.k=0
        ·have n0':(a.k == 0)=true:=by simp [n0]
         simp only [go_sem,n0',go_sem_proc]
         have eV:zN op a b=(zeroV,0):=by rw [zA,hk,if_neg (by simp),if_neg (by simp [hm]),if_neg i2,if_neg i3,if_pos (.inl n0)]
         rw [eV]
         exact Le.refl _
        have n0':(a.k == 0)=false:=by simp [n0]
        by_cases n1:b.k=0
        ·have n1':(b.k == 0)=true:=by simp [n1]
         simp only [go_sem,n0',n1',go_sem_proc]
         have eV:zN op a b=(zeroV,0):=by rw [zA,hk,if_neg (by simp),if_neg (by simp [hm]),if_neg i2,if_neg i3,if_pos (.inr n1)]
         rw [eV]
         exact Le.refl _
        have n1':(b.k == 0)=false:=by simp [n1]
        simp only [go_sem,n0',n1',go_sem_proc]
        refine Cl.pure TT 4000 (xJ op hm a.i b.i ha hb) rfl rfl ?_
        by_cases e0:(Go.Proofs.YtifdakibkadfiaaGreatDoor.zm op.toList a.i b.i).2=0
        ·have e0':((Go.Proofs.YtifdakibkadfiaaGreatDoor.zm op.toList a.i b.i).2 != 0)=false:=by simp [e0]
         simp only [go_sem,e0',go_sem_proc]
         refine Cl.pure TT 4000 (qU _) rfl rfl ?_
         simp only [go_sem,go_sem_proc]
         have eV:zN op a b=(⟨2,(Go.Proofs.YtifdakibkadfiaaGreatDoor.zm op.toList a.i b.i).1,⟨#[]⟩⟩,0):=by rw [zA,hk,if_neg (by simp),if_neg (by simp [hm]),if_neg i2,if_neg i3,if_neg (by simp [n0,n1]),if_neg (by simp [e0])]
         rw [eV]
         exact Le.refl _
        ·have e0':((Go.Proofs.YtifdakibkadfiaaGreatDoor.zm op.toList a.i b.i).2 != 0)=true:=by simp [e0]
         simp only [go_sem,e0',go_sem_proc]
         have eV:zN op a b=(zeroV,(Go.Proofs.YtifdakibkadfiaaGreatDoor.zm op.toList a.i b.i).2):=by rw [zA,hk,if_neg (by simp),if_neg (by simp [hm]),if_neg i2,if_neg i3,if_neg (by simp [n0,n1]),if_pos e0]
         rw [eV]
         exact Le.refl _
    ·have hm:op.toList ∈ Qv:=hmem.2 (.inr (.inr (.inr (.inl ((eq_of_beq o4).trans (bsl [47]))))))
     simp only [go_sem,o1,o2,o3,o4,go_sem_proc]
     refine Lp.at TT 4000 5 (Nat.le_of_ble_eq_true rfl) [false,false,false,false,false,false,false,true,false,true,false,false,false,false,false,false,false,false,false,false,false,false,false,false,false,false,false,false,false,false,false,false,false,false,false,false,false,false,false,false,false,false,true,true,true,true,true,true,true,true,true,true,true,true,true,true] (fun j:Nat=>2 - j) (fun j=>j ≤ 2 ∧ (0 < j → ¬ (a.k ≠ 0 ∧ a.k ≠ 2)) ∧ (1 < j → ¬ (b.k ≠ 0 ∧ b.k ≠ 2))) (fun j=>[(42,cI j)]) (fun _=>[]) (0) (⟨Nat.zero_le _,fun h=>absurd h (Nat.not_lt_zero _),fun h=>absurd h (by omega)⟩) ?_ ?_
     ·simp only [go_sem,go_sem_proc]
     ·rintro j ⟨i1,i2,i3⟩
      have hw0:IntKind.wrap .i64 1=((1:Nat):Int):=rfl
      have hw1:IntKind.wrap .i64 (((1:Nat):Int) + 1)=((2:Nat):Int):=rfl
      have g0:(0:Int) < ((2:Nat):Int):=by decide
      have g1:((1:Nat):Int) < ((2:Nat):Int):=by decide
      match j,i1,i2,i3 with
      | 0,_,_,_ =>
       simp only [go_sem,g0,go_sem_proc]
       by_cases z0:a.k=0
       ·have z0':(a.k != 0)=false:=by simp [z0]
        simp only [go_sem,z0',hw0,hw1,go_sem_proc]
        exact ⟨1,by omega,⟨by omega,by intros;omega,by intros;omega⟩,zq.of_eq rfl⟩
       ·have z0':(a.k != 0)=true:=by simp [z0]
        by_cases z2:a.k=2
        ·have z2':(a.k != 2)=false:=by simp [z2]
         simp only [go_sem,z0',z2',hw0,hw1,go_sem_proc]
         exact ⟨1,by omega,⟨by omega,by intros;omega,by intros;omega⟩,zq.of_eq rfl⟩
        ·have z2':(a.k != 2)=true:=by simp [z2]
         simp only [go_sem,z0',z2',go_sem_proc]
         have eV:zN op a b=(zeroV,20):=by rw [zA,hk,if_neg (by simp),if_neg (by simp [hm])];simp [z0,z2]
         rw [eV]
         exact Le.refl _
      | 1,_,i2,_ =>
       have i2:=i2 (by omega)
       simp only [go_sem,g1,go_sem_proc]
       by_cases z0:b.k=0
       ·have z0':(b.k != 0)=false:=by simp [z0]
        simp only [go_sem,z0',hw0,hw1,go_sem_proc]
        exact ⟨2,by omega,⟨by omega,by intros;omega,by intros;omega⟩,zq.of_eq rfl⟩
       ·have z0':(b.k != 0)=true:=by simp [z0]
        by_cases z2:b.k=2
        ·have z2':(b.k != 2)=false:=by simp [z2]
         simp only [go_sem,z0',z2',hw0,hw1,go_sem_proc]
         exact ⟨2,by omega,⟨by omega,by intros;omega,by intros;omega⟩,zq.of_eq rfl⟩
        ·have z2':(b.k != 2)=true:=by simp [z2]
         simp only [go_sem,z0',z2',go_sem_proc]
         have eV:zN op a b=(zeroV,20):=by rw [zA,hk,if_neg (by simp),if_neg (by simp [hm])];simp [z0,z2]
         rw [eV]
         exact Le.refl _
      | 2,_,i2,i3 =>
       have i2:=i2 (by omega)
       have i3:=i3 (by omega)
       simp only [go_sem,Int.lt_irrefl,go_sem_proc]
       by_cases n0:a.k=0
       ·have n0':(a.k == 0)=true:=by simp [n0]
        simp only [go_sem,n0',go_sem_proc]
        have eV:zN op a b=(zeroV,0):=by rw [zA,hk,if_neg (by simp),if_neg (by simp [hm]),if_neg i2,if_neg i3,if_pos (.inl n0)]
        rw [eV]
        exact Le.refl _
       have n0':(a.k == 0)=false:=by simp [n0]
       by_cases n1:b.k=0
       ·have n1':(b.k == 0)=true:=by simp [n1]
        simp only [go_sem,n0',n1',go_sem_proc]
        have eV:zN op a b=(zeroV,0):=by rw [zA,hk,if_neg (by simp),if_neg (by simp [hm]),if_neg i2,if_neg i3,if_pos (.inr n1)]
        rw [eV]
        exact Le.refl _
       have n1':(b.k == 0)=false:=by simp [n1]
       simp only [go_sem,n0',n1',go_sem_proc]
       refine Cl.pure TT 4000 (xJ op hm a.i b.i ha hb) rfl rfl ?_
       by_cases e0:(Go.Proofs.YtifdakibkadfiaaGreatDoor.zm op.toList a.i b.i).2=0
       ·have e0':((Go.Proofs.YtifdakibkadfiaaGreatDoor.zm op.toList a.i b.i).2 != 0)=false:=by simp [e0]
        simp only [go_sem,e0',go_sem_proc]
        refine Cl.pure TT 4000 (qU _) rfl rfl ?_
        simp only [go_sem,go_sem_proc]
        have eV:zN op a b=(⟨2,(Go.Proofs.YtifdakibkadfiaaGreatDoor.zm op.toList a.i b.i).1,⟨#[]⟩⟩,0):=by rw [zA,hk,if_neg (by simp),if_neg (by simp [hm]),if_neg i2,if_neg i3,if_neg (by simp [n0,n1]),if_neg (by simp [e0])]
        rw [eV]
        exact Le.refl _
       ·have e0':((Go.Proofs.YtifdakibkadfiaaGreatDoor.zm op.toList a.i b.i).2 != 0)=true:=by simp [e0]
        simp only [go_sem,e0',go_sem_proc]
        have eV:zN op a b=(zeroV,(Go.Proofs.YtifdakibkadfiaaGreatDoor.zm op.toList a.i b.i).2):=by rw [zA,hk,if_neg (by simp),if_neg (by simp [hm]),if_neg i2,if_neg i3,if_neg (by simp [n0,n1]),if_pos e0]
        rw [eV]
        exact Le.refl _
   ·have hm:op.toList ∈ Qv:=hmem.2 (.inr (.inr (.inl ((eq_of_beq o3).trans (bsl [42])))))
    simp only [go_sem,o1,o2,o3,go_sem_proc]
    refine Lp.at TT 4000 5 (Nat.le_of_ble_eq_true rfl) [false,false,false,false,false,false,false,true,false,true,false,false,false,false,false,false,false,false,false,false,false,false,false,false,false,false,false,false,false,false,false,false,false,false,false,false,false,false,false,false,false,false,true,true,true,true,true,true,true,true,true,true,true,true,true,true] (fun j:Nat=>2 - j) (fun j=>j ≤ 2 ∧ (0 < j → ¬ (a.k ≠ 0 ∧ a.k ≠ 2)) ∧ (1 < j → ¬ (b.k ≠ 0 ∧ b.k ≠ 2))) (fun j=>[(42,cI j)]) (fun _=>[]) (0) (⟨Nat.zero_le _,fun h=>absurd h (Nat.not_lt_zero _),fun h=>absurd h (by omega)⟩) ?_ ?_
    ·simp only [go_sem,go_sem_proc]
    ·rintro j ⟨i1,i2,i3⟩
     have hw0:IntKind.wrap .i64 1=((1:Nat):Int):=rfl
     have hw1:IntKind.wrap .i64 (((1:Nat):Int) + 1)=((2:Nat):Int):=rfl
     have g0:(0:Int) < ((2:Nat):Int):=by decide
     have g1:((1:Nat):Int) < ((2:Nat):Int):=by decide
     match j,i1,i2,i3 with
     | 0,_,_,_ =>
      simp only [go_sem,g0,go_sem_proc]
      by_cases z0:a.k=0
      ·have z0':(a.k != 0)=false:=by simp [z0]
       simp only [go_sem,z0',hw0,hw1,go_sem_proc]
       exact ⟨1,by omega,⟨by omega,by intros;omega,by intros;omega⟩,zq.of_eq rfl⟩
      ·have z0':(a.k != 0)=true:=by simp [z0]
       by_cases z2:a.k=2
       ·have z2':(a.k != 2)=false:=by simp [z2]
        simp only [go_sem,z0',z2',hw0,hw1,go_sem_proc]
        exact ⟨1,by omega,⟨by omega,by intros;omega,by intros;omega⟩,zq.of_eq rfl⟩
       ·have z2':(a.k != 2)=true:=by simp [z2]
        simp only [go_sem,z0',z2',go_sem_proc]
        have eV:zN op a b=(zeroV,20):=by rw [zA,hk,if_neg (by simp),if_neg (by simp [hm])];simp [z0,z2]
        rw [eV]
        exact Le.refl _
     | 1,_,i2,_ =>
      have i2:=i2 (by omega)
      simp only [go_sem,g1,go_sem_proc]
      by_cases z0:b.k=0
      ·have z0':(b.k != 0)=false:=by simp [z0]
       simp only [go_sem,z0',hw0,hw1,go_sem_proc]
       exact ⟨2,by omega,⟨by omega,by intros;omega,by intros;omega⟩,zq.of_eq rfl⟩
      ·have z0':(b.k != 0)=true:=by simp [z0]
       by_cases z2:b.k=2
       ·have z2':(b.k != 2)=false:=by simp [z2]
        simp only [go_sem,z0',z2',hw0,hw1,go_sem_proc]
        exact ⟨2,by omega,⟨by omega,by intros;omega,by intros;omega⟩,zq.of_eq rfl⟩
       ·have z2':(b.k != 2)=true:=by simp [z2]
        simp only [go_sem,z0',z2',go_sem_proc]
        have eV:zN op a b=(zeroV,20):=by rw [zA,hk,if_neg (by simp),if_neg (by simp [hm])];simp [z0,z2]
        rw [eV]
        exact Le.refl _
     | 2,_,i2,i3 =>
      have i2:=i2 (by omega)
      have i3:=i3 (by omega)
      simp only [go_sem,Int.lt_irrefl,go_sem_proc]
      by_cases n0:a.k=0
      ·have n0':(a.k == 0)=true:=by simp [n0]
       simp only [go_sem,n0',go_sem_proc]
       have eV:zN op a b=(zeroV,0):=by rw [zA,hk,if_neg (by simp),if_neg (by simp [hm]),if_neg i2,if_neg i3,if_pos (.inl n0)]
       rw [eV]
       exact Le.refl _
      have n0':(a.k == 0)=false:=by simp [n0]
      by_cases n1:b.k=0
      ·have n1':(b.k == 0)=true:=by simp [n1]
       simp only [go_sem,n0',n1',go_sem_proc]
       have eV:zN op a b=(zeroV,0):=by rw [zA,hk,if_neg (by simp),if_neg (by simp [hm]),if_neg i2,if_neg i3,if_pos (.inr n1)]
       rw [eV]
       exact Le.refl _
      have n1':(b.k == 0)=false:=by simp [n1]
      simp only [go_sem,n0',n1',go_sem_proc]
      refine Cl.pure TT 4000 (xJ op hm a.i b.i ha hb) rfl rfl ?_
      by_cases e0:(Go.Proofs.YtifdakibkadfiaaGreatDoor.zm op.toList a.i b.i).2=0
      ·have e0':((Go.Proofs.YtifdakibkadfiaaGreatDoor.zm op.toList a.i b.i).2 != 0)=false:=by simp [e0]
       simp only [go_sem,e0',go_sem_proc]
       refine Cl.pure TT 4000 (qU _) rfl rfl ?_
       simp only [go_sem,go_sem_proc]
       have eV:zN op a b=(⟨2,(Go.Proofs.YtifdakibkadfiaaGreatDoor.zm op.toList a.i b.i).1,⟨#[]⟩⟩,0):=by rw [zA,hk,if_neg (by simp),if_neg (by simp [hm]),if_neg i2,if_neg i3,if_neg (by simp [n0,n1]),if_neg (by simp [e0])]
       rw [eV]
       exact Le.refl _
      ·have e0':((Go.Proofs.YtifdakibkadfiaaGreatDoor.zm op.toList a.i b.i).2 != 0)=true:=by simp [e0]
       simp only [go_sem,e0',go_sem_proc]
       have eV:zN op a b=(zeroV,(Go.Proofs.YtifdakibkadfiaaGreatDoor.zm op.toList a.i b.i).2):=by rw [zA,hk,if_neg (by simp),if_neg (by simp [hm]),if_neg i2,if_neg i3,if_neg (by simp [n0,n1]),if_pos e0]
       rw [eV]
       exact Le.refl _
  ·have hm:op.toList ∈ Qv:=hmem.2 (.inr (.inl ((eq_of_beq o2).trans (bsl [45]))))
   simp only [go_sem,o1,o2,go_sem_proc]
   refine Lp.at TT 4000 5 (Nat.le_of_ble_eq_true rfl) [false,false,false,false,false,false,false,true,false,true,false,false,false,false,false,false,false,false,false,false,false,false,false,false,false,false,false,false,false,false,false,false,false,false,false,false,false,false,false,false,false,false,true,true,true,true,true,true,true,true,true,true,true,true,true,true] (fun j:Nat=>2 - j) (fun j=>j ≤ 2 ∧ (0 < j → ¬ (a.k ≠ 0 ∧ a.k ≠ 2)) ∧ (1 < j → ¬ (b.k ≠ 0 ∧ b.k ≠ 2))) (fun j=>[(42,cI j)]) (fun _=>[]) (0) (⟨Nat.zero_le _,fun h=>absurd h (Nat.not_lt_zero _),fun h=>absurd h (by omega)⟩) ?_ ?_
   ·simp only [go_sem,go_sem_proc]
   ·rintro j ⟨i1,i2,i3⟩
    have hw0:IntKind.wrap .i64 1=((1:Nat):Int):=rfl
    have hw1:IntKind.wrap .i64 (((1:Nat):Int) + 1)=((2:Nat):Int):=rfl
    have g0:(0:Int) < ((2:Nat):Int):=by decide
    have g1:((1:Nat):Int) < ((2:Nat):Int):=by decide
    match j,i1,i2,i3 with
    | 0,_,_,_ =>
     simp only [go_sem,g0,go_sem_proc]
     by_cases z0:a.k=0
     ·have z0':(a.k != 0)=false:=by simp [z0]
      simp only [go_sem,z0',hw0,hw1,go_sem_proc]
      exact ⟨1,by omega,⟨by omega,by intros;omega,by intros;omega⟩,zq.of_eq rfl⟩
     ·have z0':(a.k != 0)=true:=by simp [z0]
      by_cases z2:a.k=2
      ·have z2':(a.k != 2)=false:=by simp [z2]
       simp only [go_sem,z0',z2',hw0,hw1,go_sem_proc]
       exact ⟨1,by omega,⟨by omega,by intros;omega,by intros;omega⟩,zq.of_eq rfl⟩
      ·have z2':(a.k != 2)=true:=by simp [z2]
       simp only [go_sem,z0',z2',go_sem_proc]
       have eV:zN op a b=(zeroV,20):=by rw [zA,hk,if_neg (by simp),if_neg (by simp [hm])];simp [z0,z2]
       rw [eV]
       exact Le.refl _
    | 1,_,i2,_ =>
     have i2:=i2 (by omega)
     simp only [go_sem,g1,go_sem_proc]
     by_cases z0:b.k=0
     ·have z0':(b.k != 0)=false:=by simp [z0]
      simp only [go_sem,z0',hw0,hw1,go_sem_proc]
      exact ⟨2,by omega,⟨by omega,by intros;omega,by intros;omega⟩,zq.of_eq rfl⟩
     ·have z0':(b.k != 0)=true:=by simp [z0]
      by_cases z2:b.k=2
      ·have z2':(b.k != 2)=false:=by simp [z2]
       simp only [go_sem,z0',z2',hw0,hw1,go_sem_proc]
       exact ⟨2,by omega,⟨by omega,by intros;omega,by intros;omega⟩,zq.of_eq rfl⟩
      ·have z2':(b.k != 2)=true:=by simp [z2]
       simp only [go_sem,z0',z2',go_sem_proc]
       have eV:zN op a b=(zeroV,20):=by rw [zA,hk,if_neg (by simp),if_neg (by simp [hm])];simp [z0,z2]
       rw [eV]
       exact Le.refl _
    | 2,_,i2,i3 =>
     have i2:=i2 (by omega)
     have i3:=i3 (by omega)
     simp only [go_sem,Int.lt_irrefl,go_sem_proc]
     by_cases n0:a.k=0
     ·have n0':(a.k == 0)=true:=by simp [n0]
      simp only [go_sem,n0',go_sem_proc]
      have eV:zN op a b=(zeroV,0):=by rw [zA,hk,if_neg (by simp),if_neg (by simp [hm]),if_neg i2,if_neg i3,if_pos (.inl n0)]
      rw [eV]
      exact Le.refl _
     have n0':(a.k == 0)=false:=by simp [n0]
     by_cases n1:b.k=0
     ·have n1':(b.k == 0)=true:=by simp [n1]
      simp only [go_sem,n0',n1',go_sem_proc]
      have eV:zN op a b=(zeroV,0):=by rw [zA,hk,if_neg (by simp),if_neg (by simp [hm]),if_neg i2,if_neg i3,if_pos (.inr n1)]
      rw [eV]
      exact Le.refl _
     have n1':(b.k == 0)=false:=by simp [n1]
     simp only [go_sem,n0',n1',go_sem_proc]
     refine Cl.pure TT 4000 (xJ op hm a.i b.i ha hb) rfl rfl ?_
     by_cases e0:(Go.Proofs.YtifdakibkadfiaaGreatDoor.zm op.toList a.i b.i).2=0
     ·have e0':((Go.Proofs.YtifdakibkadfiaaGreatDoor.zm op.toList a.i b.i).2 != 0)=false:=by simp [e0]
      simp only [go_sem,e0',go_sem_proc]
      refine Cl.pure TT 4000 (qU _) rfl rfl ?_
      simp only [go_sem,go_sem_proc]
      have eV:zN op a b=(⟨2,(Go.Proofs.YtifdakibkadfiaaGreatDoor.zm op.toList a.i b.i).1,⟨#[]⟩⟩,0):=by rw [zA,hk,if_neg (by simp),if_neg (by simp [hm]),if_neg i2,if_neg i3,if_neg (by simp [n0,n1]),if_neg (by simp [e0])]
      rw [eV]
      exact Le.refl _
     ·have e0':((Go.Proofs.YtifdakibkadfiaaGreatDoor.zm op.toList a.i b.i).2 != 0)=true:=by simp [e0]
      simp only [go_sem,e0',go_sem_proc]
      have eV:zN op a b=(zeroV,(Go.Proofs.YtifdakibkadfiaaGreatDoor.zm op.toList a.i b.i).2):=by rw [zA,hk,if_neg (by simp),if_neg (by simp [hm]),if_neg i2,if_neg i3,if_neg (by simp [n0,n1]),if_pos e0]
      rw [eV]
      exact Le.refl _
 ·have hm:op.toList ∈ Qv:=hmem.2 (.inl ((eq_of_beq o1).trans (bsl [43])))
  simp only [go_sem,o1,go_sem_proc]
  refine Lp.at TT 4000 5 (Nat.le_of_ble_eq_true rfl) [false,false,false,false,false,false,false,true,false,true,false,false,false,false,false,false,false,false,false,false,false,false,false,false,false,false,false,false,false,false,false,false,false,false,false,false,false,false,false,false,false,false,true,true,true,true,true,true,true,true,true,true,true,true,true,true] (fun j:Nat=>2 - j) (fun j=>j ≤ 2 ∧ (0 < j → ¬ (a.k ≠ 0 ∧ a.k ≠ 2)) ∧ (1 < j → ¬ (b.k ≠ 0 ∧ b.k ≠ 2))) (fun j=>[(42,cI j)]) (fun _=>[]) (0) (⟨Nat.zero_le _,fun h=>absurd h (Nat.not_lt_zero _),fun h=>absurd h (by omega)⟩) ?_ ?_
  ·simp only [go_sem,go_sem_proc]
  ·rintro j ⟨i1,i2,i3⟩
   have hw0:IntKind.wrap .i64 1=((1:Nat):Int):=rfl
   have hw1:IntKind.wrap .i64 (((1:Nat):Int) + 1)=((2:Nat):Int):=rfl
   have g0:(0:Int) < ((2:Nat):Int):=by decide
   have g1:((1:Nat):Int) < ((2:Nat):Int):=by decide
   match j,i1,i2,i3 with
   | 0,_,_,_ =>
    simp only [go_sem,g0,go_sem_proc]
    by_cases z0:a.k=0
    ·have z0':(a.k != 0)=false:=by simp [z0]
     simp only [go_sem,z0',hw0,hw1,go_sem_proc]
     exact ⟨1,by omega,⟨by omega,by intros;omega,by intros;omega⟩,zq.of_eq rfl⟩
    ·have z0':(a.k != 0)=true:=by simp [z0]
     by_cases z2:a.k=2
     ·have z2':(a.k != 2)=false:=by simp [z2]
      simp only [go_sem,z0',z2',hw0,hw1,go_sem_proc]
      exact ⟨1,by omega,⟨by omega,by intros;omega,by intros;omega⟩,zq.of_eq rfl⟩
     ·have z2':(a.k != 2)=true:=by simp [z2]
      simp only [go_sem,z0',z2',go_sem_proc]
      have eV:zN op a b=(zeroV,20):=by rw [zA,hk,if_neg (by simp),if_neg (by simp [hm])];simp [z0,z2]
      rw [eV]
      exact Le.refl _
   | 1,_,i2,_ =>
    have i2:=i2 (by omega)
    simp only [go_sem,g1,go_sem_proc]
    by_cases z0:b.k=0
    ·have z0':(b.k != 0)=false:=by simp [z0]
     simp only [go_sem,z0',hw0,hw1,go_sem_proc]
     exact ⟨2,by omega,⟨by omega,by intros;omega,by intros;omega⟩,zq.of_eq rfl⟩
    ·have z0':(b.k != 0)=true:=by simp [z0]
     by_cases z2:b.k=2
     ·have z2':(b.k != 2)=false:=by simp [z2]
      simp only [go_sem,z0',z2',hw0,hw1,go_sem_proc]
      exact ⟨2,by omega,⟨by omega,by intros;omega,by intros;omega⟩,zq.of_eq rfl⟩
     ·have z2':(b.k != 2)=true:=by simp [z2]
      simp only [go_sem,z0',z2',go_sem_proc]
      have eV:zN op a b=(zeroV,20):=by rw [zA,hk,if_neg (by simp),if_neg (by simp [hm])];simp [z0,z2]
      rw [eV]
      exact Le.refl _
   | 2,_,i2,i3 =>
    have i2:=i2 (by omega)
    have i3:=i3 (by omega)
    simp only [go_sem,Int.lt_irrefl,go_sem_proc]
    by_cases n0:a.k=0
    ·have n0':(a.k == 0)=true:=by simp [n0]
     simp only [go_sem,n0',go_sem_proc]
     have eV:zN op a b=(zeroV,0):=by rw [zA,hk,if_neg (by simp),if_neg (by simp [hm]),if_neg i2,if_neg i3,if_pos (.inl n0)]
     rw [eV]
     exact Le.refl _
    have n0':(a.k == 0)=false:=by simp [n0]
    by_cases n1:b.k=0
    ·have n1':(b.k == 0)=true:=by simp [n1]
     simp only [go_sem,n0',n1',go_sem_proc]
     have eV:zN op a b=(zeroV,0):=by rw [zA,hk,if_neg (by simp),if_neg (by simp [hm]),if_neg i2,if_neg i3,if_pos (.inr n1)]
     rw [eV]
     exact Le.refl _
    have n1':(b.k == 0)=false:=by simp [n1]
    simp only [go_sem,n0',n1',go_sem_proc]
    refine Cl.pure TT 4000 (xJ op hm a.i b.i ha hb) rfl rfl ?_
    by_cases e0:(Go.Proofs.YtifdakibkadfiaaGreatDoor.zm op.toList a.i b.i).2=0
    ·have e0':((Go.Proofs.YtifdakibkadfiaaGreatDoor.zm op.toList a.i b.i).2 != 0)=false:=by simp [e0]
     simp only [go_sem,e0',go_sem_proc]
     refine Cl.pure TT 4000 (qU _) rfl rfl ?_
     simp only [go_sem,go_sem_proc]
     have eV:zN op a b=(⟨2,(Go.Proofs.YtifdakibkadfiaaGreatDoor.zm op.toList a.i b.i).1,⟨#[]⟩⟩,0):=by rw [zA,hk,if_neg (by simp),if_neg (by simp [hm]),if_neg i2,if_neg i3,if_neg (by simp [n0,n1]),if_neg (by simp [e0])]
     rw [eV]
     exact Le.refl _
    ·have e0':((Go.Proofs.YtifdakibkadfiaaGreatDoor.zm op.toList a.i b.i).2 != 0)=true:=by simp [e0]
     simp only [go_sem,e0',go_sem_proc]
     have eV:zN op a b=(zeroV,(Go.Proofs.YtifdakibkadfiaaGreatDoor.zm op.toList a.i b.i).2):=by rw [zA,hk,if_neg (by simp),if_neg (by simp [hm]),if_neg i2,if_neg i3,if_neg (by simp [n0,n1]),if_pos e0]
     rw [eV]
     exact Le.refl _
theorem zf0 (v:Val) (hv:I64 v.i):Good Tryz.prog 115 [v.av] [] (qY (zed v).1 (zed v).2) []:=by
 have h:=W1 ⟨#[45]⟩ ⟨2,0,⟨#[]⟩⟩ v (by simp [I64]) hv
 have e:zN ⟨#[45]⟩ ⟨2,0,⟨#[]⟩⟩ v=zed v:=by unfold zN zed;rw [bsl [45]];rfl
 rw [e] at h
 refine Good.zg TT 4000 Tryz.func115 rfl rfl ?_
 unfold Tryz.f115
 simp only [go_sem,go_sem_proc]
 refine Dr.ofC TT (by kernel_rfl) [(36,[cI 0],(Val.mk 2 0 ⟨#[]⟩).av),(121,[cS ⟨#[45]⟩,(Val.mk 2 0 ⟨#[]⟩).av,v.av],qY (zed v).1 (zed v).2)] ⟨⟨qU 0,rfl⟩,⟨h,rfl⟩,trivial⟩ ?_
 simp only [go_sem,go_sem_proc]
 refine jy.of TT 4000 (zJ (by kernel_rfl)) ?_
 simp only [go_sem,go_sem_proc]
 exact Le.refl _
end Go.Ev
end
section
open Go Go.Proofs Go.RowKit
namespace Go.Ev
open Go.Proofs.YtifdakibkadfiaaGreatDoor (GV zx VS zY kD)
theorem wM (a b:Val):VK a b=if (a.ok && b.ok)=false then (zeroV,1) else if a.k=1 ∨ a.k=2 then (zeroV,20) else if b.k=1 ∨ b.k=2 then (zeroV,20)
  else if a.k=0 ∨ b.k=0 then (zeroV,0) else if a.k ≠ b.k then (zeroV,20) else (⟨a.k,0,a.s ++ b.s⟩,0):=by
 unfold VK Go.Proofs.YtifdakibkadfiaaGreatDoor.Xi Go.Proofs.YtifdakibkadfiaaGreatDoor.vl
 rw [yd,yd]
 cases a.ok && b.ok
 ·rfl
 simp only [Bool.not_true,Bool.false_eq_true,if_false,Bool.true_eq_false]
 show unG (if ((a.k == 1 || a.k == 2) || (b.k == 1 || b.k == 2))=true then _ else if ((a.k == 0 || b.k == 0)=true) then _ else if ((a.k != b.k)=true) then _ else _)=_
 by_cases c1:a.k=1 ∨ a.k=2
 ·rw [if_pos (by rcases c1 with h | h <;> simp [h]),if_pos c1];rfl
 by_cases c2:b.k=1 ∨ b.k=2
 ·rw [if_pos (by rcases c2 with h | h <;> simp [h]),if_neg c1,if_pos c2];rfl
 rw [if_neg (by simp only [not_or] at c1 c2;simp [c1,c2]),if_neg c1,if_neg c2]
 by_cases c3:a.k=0 ∨ b.k=0
 ·rw [if_pos (by simpa using c3),if_pos c3];rfl
 rw [if_neg (by simpa using c3),if_neg c3]
 by_cases c4:a.k ≠ b.k
 ·rw [if_pos (by simpa using c4),if_pos c4];rfl
 ·rw [if_neg (by simpa using c4),if_neg c4];rfl
theorem zhx (a b:Val) (hs:a.s.size + b.s.size ≤ 9223372036854775807):Good Tryz.prog 118 [a.av,b.av] [] (qY (VK a b).1 (VK a b).2) []:=by
 refine Good.zg TT 4000 Tryz.func118 rfl rfl ?_
 unfold Tryz.f118
 simp only [go_sem,go_sem_proc]
 refine Cl.pure TT 4000 (ZK [a,b] (by simp)) rfl rfl ?_
 have hall:List.all [a,b] Val.ok=(a.ok && b.ok):=by simp
 rw [hall]
 cases hk:(a.ok && b.ok)
 ·simp only [go_sem,go_sem_proc]
  have eV:VK a b=(zeroV,1):=by rw [wM,hk,if_pos rfl]
  rw [eV]
  exact Le.refl _
 simp only [go_sem,go_sem_proc]
 refine Lp.at TT 4000 5 (Nat.le_of_ble_eq_true rfl) [false,false,false,false,false,true,false,true,false,false,false,false,false,false,false,false,false,false,true,true,true,true,true,true,true,true,true,true,true,true,true,true] (fun j:Nat=>2 - j) (fun j=>j ≤ 2 ∧ (0 < j → ¬ (a.k=1 ∨ a.k=2)) ∧ (1 < j → ¬ (b.k=1 ∨ b.k=2))) (fun j=>[(18,cI j)]) (fun _=>[]) (0) (⟨Nat.zero_le _,fun h=>absurd h (Nat.not_lt_zero _),fun h=>absurd h (by omega)⟩) ?_ ?_
 ·simp only [go_sem,go_sem_proc]
 ·rintro j ⟨i1,i2,i3⟩
  have hw0:IntKind.wrap .i64 1=((1:Nat):Int):=rfl
  have hw1:IntKind.wrap .i64 (((1:Nat):Int) + 1)=((2:Nat):Int):=rfl
  have g0:(0:Int) < ((2:Nat):Int):=by decide
  have g1:((1:Nat):Int) < ((2:Nat):Int):=by decide
  match j,i1,i2,i3 with
  | 0,_,_,_ =>
   simp only [go_sem,g0,go_sem_proc]
   by_cases z1:a.k=1
   ·have z1':(a.k == 1)=true:=by simp [z1]
    simp only [go_sem,z1',go_sem_proc]
    have eV:VK a b=(zeroV,20):=by rw [wM,hk,if_neg (by simp)];simp [z1]
    rw [eV]
    exact Le.refl _
   ·have z1':(a.k == 1)=false:=by simp [z1]
    by_cases z2:a.k=2
    ·have z2':(a.k == 2)=true:=by simp [z2]
     simp only [go_sem,z1',z2',go_sem_proc]
     have eV:VK a b=(zeroV,20):=by rw [wM,hk,if_neg (by simp)];simp [z2]
     rw [eV]
     exact Le.refl _
    ·have z2':(a.k == 2)=false:=by simp [z2]
     simp only [go_sem,z1',z2',hw0,hw1,go_sem_proc]
     exact ⟨1,by omega,⟨by omega,by intros;omega,by intros;omega⟩,zq.of_eq rfl⟩
  | 1,_,i2,_ =>
   have i2:=i2 (by omega)
   simp only [go_sem,g1,go_sem_proc]
   by_cases z1:b.k=1
   ·have z1':(b.k == 1)=true:=by simp [z1]
    simp only [go_sem,z1',go_sem_proc]
    have eV:VK a b=(zeroV,20):=by rw [wM,hk,if_neg (by simp)];simp [z1]
    rw [eV]
    exact Le.refl _
   ·have z1':(b.k == 1)=false:=by simp [z1]
    by_cases z2:b.k=2
    ·have z2':(b.k == 2)=true:=by simp [z2]
     simp only [go_sem,z1',z2',go_sem_proc]
     have eV:VK a b=(zeroV,20):=by rw [wM,hk,if_neg (by simp)];simp [z2]
     rw [eV]
     exact Le.refl _
    ·have z2':(b.k == 2)=false:=by simp [z2]
     simp only [go_sem,z1',z2',hw0,hw1,go_sem_proc]
     exact ⟨2,by omega,⟨by omega,by intros;omega,by intros;omega⟩,zq.of_eq rfl⟩
  | 2,_,i2,i3 =>
   have i2:=i2 (by omega)
   have i3:=i3 (by omega)
   simp only [go_sem,Int.lt_irrefl,go_sem_proc]
   by_cases n0:a.k=0
   ·have n0':(a.k == 0)=true:=by simp [n0]
    simp only [go_sem,n0',go_sem_proc]
    have eV:VK a b=(zeroV,0):=by rw [wM,hk,if_neg (by simp),if_neg i2,if_neg i3,if_pos (.inl n0)]
    rw [eV]
    exact Le.refl _
   have n0':(a.k == 0)=false:=by simp [n0]
   by_cases n1:b.k=0
   ·have n1':(b.k == 0)=true:=by simp [n1]
    simp only [go_sem,n0',n1',go_sem_proc]
    have eV:VK a b=(zeroV,0):=by rw [wM,hk,if_neg (by simp),if_neg i2,if_neg i3,if_pos (.inr n1)]
    rw [eV]
    exact Le.refl _
   have n1':(b.k == 0)=false:=by simp [n1]
   by_cases e0:a.k=b.k
   ·have e0':(a.k != b.k)=false:=by simp [e0]
    simp only [go_sem,n0',n1',e0',go_sem_proc]
    have eV:VK a b=(⟨a.k,0,a.s ++ b.s⟩,0):=by rw [wM,hk,if_neg (by simp),if_neg i2,if_neg i3,if_neg (by simp [n0,n1]),if_neg (by simp [e0])]
    rw [eV]
    exact ⟨hs,Le.refl _⟩
   ·have e0':(a.k != b.k)=true:=by simp [e0]
    simp only [go_sem,n0',n1',e0',go_sem_proc]
    have eV:VK a b=(zeroV,20):=by rw [wM,hk,if_neg (by simp),if_neg i2,if_neg i3,if_neg (by simp [n0,n1]),if_pos e0]
    rw [eV]
    exact Le.refl _
end Go.Ev
end
