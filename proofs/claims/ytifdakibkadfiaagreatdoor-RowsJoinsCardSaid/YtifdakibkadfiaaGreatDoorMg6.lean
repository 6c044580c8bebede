import Derived.Test.YtifdakibkadfiaaGreatDoorMg5
import Derived.Laws.IdiomStrings
import Derived.Lib.ReplaceLaws
import Derived.Test.YtifdakibkadfiaaGreatDoorMg2
import Derived.Test.YtifdakibkadfiaaGreatDoorMg3
import Derived.Lib.IndexBytes
set_option linter.all false
set_option maxRecDepth 100000
set_option maxHeartbeats 8000000
section
namespace Go.Proofs.YtifdakibkadfiaaGreatDoor
open Go.RowKit Go.Shelf Go
theorem yv (s:ByteArray) (w:World) :
  Calls Tryz.prog 218 #[.string s] w (zx (GV.text s).val w):=by
 unfold GV.val GV.text
 go_enter Tryz.func218,Tryz.ntmps218
 go_wp2
 go_returns
 exact zx.mk rfl (by go_grown)
theorem zmg (s:ByteArray) (w:World) (hs:s.size ≤ 9223372036854775807) :
  Calls Tryz.prog 198 #[.string s] w (zx (.string ⟨(Lib.trimB s.data.toList 32).toArray⟩) w):=by
 have ht:=fun W=>Tryz.strings_Trim_one s 32 (by decide) W hs
 clear hs
 go_enter Tryz.func198,Tryz.ntmps198
 go_wp2_with fail
 refine (ht _).mono ?_
 rintro e w1 ⟨rfl,rfl | rfl⟩
 ·go_wp2
  go_returns
  exact zx.mk rfl (Below.refl _ _)
 ·go_wp2
  go_returns
  exact zx.mk rfl (by go_grown)
theorem zmL (g:Nat) (cap:Array Value) (eg:∀ args w,(callFunc g args).run Tryz.prog w = .ok (.enter g args) w) (x:GV) (y:ByteArray) (b:Nat) (v:Value) (w:World) (hv:VS w v [x]) (hb:w.cell? ⟨b,0,none⟩=some (.func (.func g) #[] cap))
  (hg:∀ W,Below w.heap.size w W → Calls Tryz.prog g (#[.string x.s] ++ cap) W (zx (.string y) W)) :
  Calls Tryz.prog 217 #[v,.pointer (some ⟨b,0,none⟩)] w (zx (.tuple #[(GV.text y).val,.int .i64 0]) w):=by
 obtain ⟨p,o,c,rfl,hc⟩:=hv.row (by simp)
 obtain ⟨x0,x1,x2⟩:=hc 0 x rfl
 rw [Nat.zero_mul,Nat.add_zero] at x0 x1 x2
 have hp:p < w.heap.size:=zd x0
 have hbz:b < w.heap.size:=zd hb
 have hbz2:b < w.heap.size + 1:=by omega
 have hp2:p < w.heap.size + 1:=by omega
 have hn:=fun W=>yv y W
 unfold GV.val GV.text at hn
 unfold GV.val GV.text
 clear hc
 simp only [List.length_cons,List.length_nil,Nat.zero_add]
 go_enter Tryz.func217,Tryz.ntmps217
 go_wp2_with fail
 have r0:(w.alloc vw).cell? ⟨w.heap.size,0,none⟩=some (.int .i64 0):=by simp [go_sem,vw]
 have r1:(w.alloc vw).cell? ⟨w.heap.size,1,none⟩=some (.int .i64 0):=by simp [go_sem,vw]
 have r2:(w.alloc vw).cell? ⟨w.heap.size,2,none⟩=some (.string ⟨#[]⟩):=by simp [go_sem,vw]
 have hB:Below w.heap.size w (w.alloc vw):=(Below.refl _ _).alloc (Nat.le_refl _) _
 refine qq 7 (by kernel_rfl) (by kernel_rfl) (by kernel_rfl) ?_
 simp only [List.take_succ_cons,List.take_zero,List.drop_succ_cons,List.drop_zero]
 repeat (go_big_quiet_step (first
  | exact Calls.kQ (hg _ (later hB (qO _ _))) (fun _ _ h=>h)
  | exact Calls.kQ (hn _) (fun _ _ h=>h)))
 refine wpQuiet_nil ?_
 rintro w1 ⟨u,rfl⟩
 have hb1:=qO _ u
 generalize kG _ u=w1 at *
 have q0:=za hb1 r0
 have q1:=za hb1 r1
 have q2:=za hb1 r2
 have hz1:w.heap.size < w1.heap.size:=zd q0
 have f1:∀ o,w1.frozen? ⟨w.heap.size,o,none⟩=false:=fun o=>by rw [(zK hb1).2 _ _ (zd r0)];simp [go_sem,vw]
 have hB1:=later hB hb1
 clear r0 r1 r2 hB hb1
 go_wp2
 refine bodyPost_ret (zl rfl rfl (by with_reducible exact zj q0 q1 q2) (Tryz.isAgg26 _) (Tryz.sizeOf26 _)) rfl ?_
 exact zx.mk rfl (((hB1.setCell (Nat.le_refl _) _).setCell (Nat.le_refl _) _).setCell (Nat.le_refl _) _)
def QV (x:GV):GV × Int:=(GV.text ⟨(Lib.trimB x.s.data.toList 32).toArray⟩,0)
theorem zgX (x:GV) (hs:x.s.size ≤ 9223372036854775807):Vu 5 [x] (QV x):=fun n W v _ ht hv =>
 ⟨_,_,rfl,enters_of Tryz.func217 (by kernel_rfl) rfl,zmL 198 #[] (enters_of Tryz.func198 (by kernel_rfl) rfl) x _ _ v W hv ht.trim (fun W' _=>zmg x.s W' hs)⟩
end Go.Proofs.YtifdakibkadfiaaGreatDoor
end
section
namespace Go.Proofs.YtifdakibkadfiaaGreatDoor
open Go.RowKit Go.Shelf Go
def j6 (f t:Nat) (c:UInt8):UInt8:=if f ≤ c.toNat ∧ c.toNat < f + 26 then UInt8.ofNat (c.toNat - f + t) else c
theorem JE {f t:Nat} {c:UInt8} (h1:f ≤ c.toNat) (h2:c.toNat < f + 26) (h3:t + 26 ≤ 256):((j6 f t c).toNat:Int)=(c.toNat:Int) - f + t:=by
 unfold j6
 rw [if_pos ⟨h1,h2⟩,UInt8.toNat_ofNat']
 omega
theorem xG {f t:Nat} {c:UInt8} (h:¬ (f ≤ c.toNat ∧ c.toNat < f + 26)):j6 f t c=c:=by
 unfold j6
 rw [if_neg h]
theorem jB {w:World} {B k:Nat} {l:List UInt8} {g:UInt8 → UInt8} {c:UInt8} (hc:∀ (j:Nat) (c:UInt8),l[j]?=some c → w.cell? ⟨B,j,none⟩=some (.int .u8 ((if j < k then g c else c).toNat:Int))) (hk:l[k]?=some c) (hg:g c=c)
  {j:Nat} {c':UInt8} (hj:l[j]?=some c'):w.cell? ⟨B,j,none⟩=some (.int .u8 ((if j < k + 1 then g c' else c').toNat:Int)):=by
 rw [hc j c' hj]
 by_cases h1:j < k
 ·rw [if_pos h1,if_pos (by omega)]
 ·rw [if_neg h1]
  by_cases h2:j=k
  ·subst h2
   have:c'=c:=Option.some.inj (hj.symm.trans hk)
   subst this
   rw [if_pos (by omega),hg]
  ·rw [if_neg (by omega)]
theorem Jv (s:ByteArray) (bf bt:Nat) (w:World) (hbf:w.cell? ⟨bf,0,none⟩=some (.int .u8 65)) (hbt:w.cell? ⟨bt,0,none⟩=some (.int .u8 97)) (hs:s.size ≤ 281474976710656) :
  Calls Tryz.prog 219 #[.string s,.pointer (some ⟨bf,0,none⟩),.pointer (some ⟨bt,0,none⟩)] w (zx (.string ⟨(s.data.toList.map (j6 65 97)).toArray⟩) w):=by
 have hconv:=run_bytes_of_string (P:=Tryz.prog) w 9 125 5 s Tryz.underlying9 Tryz.underlying125 Tryz.underlying5
 generalize grownCap w s.size 0 5=cap at hconv
 have hrow:=bytesRow_at s cap
 generalize bytesRow s cap=C at hconv hrow
 have hfz:w.heap.size < w.heap.size + 1:=by omega
 have hzf:bf < w.heap.size:=zd hbf
 have hzt:bt < w.heap.size:=zd hbt
 go_enter Tryz.func219,Tryz.ntmps219
 go_wp2_with fail
 have hl:s.data.toList.length=s.size:=rfl
 go_loopw [6,7,12] (fun _ _ s12 wr=>∃ k:Nat,k ≤ s.size ∧ s12 = .int .i64 k ∧ Below w.heap.size w wr ∧ Hid (∀ (j:Nat) (c:UInt8),s.data.toList[j]?=some c → wr.cell? ⟨w.heap.size,j,none⟩=some (.int .u8 ((if j < k then j6 65 97 c else c).toNat:Int))) ∧ Hid (∀ o,o < s.size → wr.frozen? ⟨w.heap.size,o,none⟩=false)) (fun _ _ s12 _=>s.size - (intOf s12).toNat)
 case atStart =>
  have hCs:∀ j,j < s.size → j < C.size:=fun j hj=>(Array.getElem?_eq_some_iff.1 (hrow j hj)).1
  refine ⟨0,Nat.zero_le _,rfl,(((Below.refl w.heap.size w).alloc (Nat.le_refl _) _).drew),fun j c hj=>?_,fun o ho=>?_⟩
  ·have hjs:j < s.size:=by have:=(List.getElem?_eq_some_iff.1 hj).1;omega
   have h1:=hrow j hjs
   have h2:s.data[j]=c:=by
    obtain ⟨h3,h4⟩:=List.getElem?_eq_some_iff.1 hj
    rw [← h4];simp
   rw [h2] at h1
   rw [if_neg (Nat.not_lt_zero _),← h1]
   exact World.cell?_alloc_mark w C 5 _ j
  ·have h2:=World.frozen?_alloc_mark w C 5 C.size (C.size + 1) o
   have h3:=hCs o ho
   rw [decide_eq_false (by omega),Bool.false_and] at h2
   exact h2
 case round =>
  obtain ⟨k,hk,rfl,hb,hc,hf⟩:=hrel
  by_cases hlt:k < s.size
  ·obtain ⟨c,hck⟩:∃ c,s.data.toList[k]?=some c:=⟨_,List.getElem?_eq_getElem (by omega)⟩
   have cc:=hc.out k c hck
   rw [if_neg (Nat.lt_irrefl _)] at cc
   have ff:=hf.out k hlt
   have yf:=za hb hbf
   have yt:=za hb hbt
   have hz:=zd cc
   have hcb:c.toNat < 256:=c.toNat_lt
   have HCK:=Lib.hid hck
   clear hck hconv hrow
   have hfar:bf ≠ w.heap.size ∧ bt ≠ w.heap.size:=by omega
   by_cases h1:(65:Int) ≤ (c.toNat:Int)
   ·by_cases h2:(c.toNat:Int) < 91
    ·go_wp2_with fail
     refine ⟨⟨k + 1,by omega,by go_num,hb.setCell (Nat.le_refl _) _,fun j c' hj=>?_,fun o ho=>?_⟩,by simp [intOf];omega⟩
     ·by_cases hjk:j=k
      ·subst hjk
       have hcc:c'=c:=Option.some.inj (hj.symm.trans HCK.out)
       subst hcc
       rw [World.cell?_setCell_same _ _ _ cc,if_pos (Nat.lt_succ_self _),JE (f:=65) (t:=97) (by omega) (by omega) (by omega)]
       congr 2
      ·rw [World.cell?_setCell_other _ _ _ _ (fun e=>hjk (by simpa using e.symm)),hc.out j c' hj]
       by_cases hjl:j < k
       ·rw [if_pos hjl,if_pos (by omega)]
       ·rw [if_neg hjl,if_neg (by omega)]
     ·rw [World.frozen?_setCell];exact hf.out o ho
    ·go_wp2_with fail
     refine ⟨⟨k + 1,by omega,by go_num,hb,fun j c' hj=>?_,hf.out⟩,by simp [intOf];omega⟩
     exact jB hc.out HCK.out (xG (f:=65) (t:=97) (by omega)) hj
   ·go_wp2_with fail
    refine ⟨⟨k + 1,by omega,by go_num,hb,fun j c' hj=>?_,hf.out⟩,by simp [intOf];omega⟩
    exact jB hc.out HCK.out (xG (f:=65) (t:=97) (by omega)) hj
  ·have hkn:k=s.size:=by omega
   subst hkn
   have hback:=run_convert_bytes_back (P:=Tryz.prog) wr 125 9 5 ⟨w.heap.size,0,none⟩ cap (s.data.toList.map (j6 65 97)) Tryz.underlying125 Tryz.underlying5 Tryz.underlying9 (fun j hj=>by
    rw [List.length_map] at hj
    have h1:=hc.out j _ (List.getElem?_eq_getElem hj)
    rw [if_pos (by omega)] at h1
    rw [List.getElem_map]
    rw [show (⟨w.heap.size,0,none⟩:Addr).add j=⟨w.heap.size,j,none⟩ from by cases j <;> simp [Addr.add]]
    simpa using h1)
   rw [List.length_map,hl] at hback
   clear hconv hrow hc hf
   generalize (s.data.toList.map (j6 65 97)).toArray=out at *
   go_wp2
   go_returns
   exact zx.mk rfl hb
theorem J3 (s:ByteArray) (bf bt:Nat) (w:World) (hbf:w.cell? ⟨bf,0,none⟩=some (.int .u8 97)) (hbt:w.cell? ⟨bt,0,none⟩=some (.int .u8 65)) (hs:s.size ≤ 281474976710656) :
  Calls Tryz.prog 219 #[.string s,.pointer (some ⟨bf,0,none⟩),.pointer (some ⟨bt,0,none⟩)] w (zx (.string ⟨(s.data.toList.map (j6 97 65)).toArray⟩) w):=by
 have hconv:=run_bytes_of_string (P:=Tryz.prog) w 9 125 5 s Tryz.underlying9 Tryz.underlying125 Tryz.underlying5
 generalize grownCap w s.size 0 5=cap at hconv
 have hrow:=bytesRow_at s cap
 generalize bytesRow s cap=C at hconv hrow
 have hfz:w.heap.size < w.heap.size + 1:=by omega
 have hzf:bf < w.heap.size:=zd hbf
 have hzt:bt < w.heap.size:=zd hbt
 go_enter Tryz.func219,Tryz.ntmps219
 go_wp2_with fail
 have hl:s.data.toList.length=s.size:=rfl
 go_loopw [6,7,12] (fun _ _ s12 wr=>∃ k:Nat,k ≤ s.size ∧ s12 = .int .i64 k ∧ Below w.heap.size w wr ∧ Hid (∀ (j:Nat) (c:UInt8),s.data.toList[j]?=some c → wr.cell? ⟨w.heap.size,j,none⟩=some (.int .u8 ((if j < k then j6 97 65 c else c).toNat:Int))) ∧ Hid (∀ o,o < s.size → wr.frozen? ⟨w.heap.size,o,none⟩=false)) (fun _ _ s12 _=>s.size - (intOf s12).toNat)
 case atStart =>
  have hCs:∀ j,j < s.size → j < C.size:=fun j hj=>(Array.getElem?_eq_some_iff.1 (hrow j hj)).1
  refine ⟨0,Nat.zero_le _,rfl,(((Below.refl w.heap.size w).alloc (Nat.le_refl _) _).drew),fun j c hj=>?_,fun o ho=>?_⟩
  ·have hjs:j < s.size:=by have:=(List.getElem?_eq_some_iff.1 hj).1;omega
   have h1:=hrow j hjs
   have h2:s.data[j]=c:=by
    obtain ⟨h3,h4⟩:=List.getElem?_eq_some_iff.1 hj
    rw [← h4];simp
   rw [h2] at h1
   rw [if_neg (Nat.not_lt_zero _),← h1]
   exact World.cell?_alloc_mark w C 5 _ j
  ·have h2:=World.frozen?_alloc_mark w C 5 C.size (C.size + 1) o
   have h3:=hCs o ho
   rw [decide_eq_false (by omega),Bool.false_and] at h2
   exact h2
 case round =>
  obtain ⟨k,hk,rfl,hb,hc,hf⟩:=hrel
  by_cases hlt:k < s.size
  ·obtain ⟨c,hck⟩:∃ c,s.data.toList[k]?=some c:=⟨_,List.getElem?_eq_getElem (by omega)⟩
   have cc:=hc.out k c hck
   rw [if_neg (Nat.lt_irrefl _)] at cc
   have ff:=hf.out k hlt
   have yf:=za hb hbf
   have yt:=za hb hbt
   have hz:=zd cc
   have hcb:c.toNat < 256:=c.toNat_lt
   have HCK:=Lib.hid hck
   clear hck hconv hrow
   have hfar:bf ≠ w.heap.size ∧ bt ≠ w.heap.size:=by omega
   by_cases h1:(97:Int) ≤ (c.toNat:Int)
   ·by_cases h2:(c.toNat:Int) < 123
    ·go_wp2_with fail
     refine ⟨⟨k + 1,by omega,by go_num,hb.setCell (Nat.le_refl _) _,fun j c' hj=>?_,fun o ho=>?_⟩,by simp [intOf];omega⟩
     ·by_cases hjk:j=k
      ·subst hjk
       have hcc:c'=c:=Option.some.inj (hj.symm.trans HCK.out)
       subst hcc
       rw [World.cell?_setCell_same _ _ _ cc,if_pos (Nat.lt_succ_self _),JE (f:=97) (t:=65) (by omega) (by omega) (by omega)]
       congr 2
      ·rw [World.cell?_setCell_other _ _ _ _ (fun e=>hjk (by simpa using e.symm)),hc.out j c' hj]
       by_cases hjl:j < k
       ·rw [if_pos hjl,if_pos (by omega)]
       ·rw [if_neg hjl,if_neg (by omega)]
     ·rw [World.frozen?_setCell];exact hf.out o ho
    ·go_wp2_with fail
     refine ⟨⟨k + 1,by omega,by go_num,hb,fun j c' hj=>?_,hf.out⟩,by simp [intOf];omega⟩
     exact jB hc.out HCK.out (xG (f:=97) (t:=65) (by omega)) hj
   ·go_wp2_with fail
    refine ⟨⟨k + 1,by omega,by go_num,hb,fun j c' hj=>?_,hf.out⟩,by simp [intOf];omega⟩
    exact jB hc.out HCK.out (xG (f:=97) (t:=65) (by omega)) hj
  ·have hkn:k=s.size:=by omega
   subst hkn
   have hback:=run_convert_bytes_back (P:=Tryz.prog) wr 125 9 5 ⟨w.heap.size,0,none⟩ cap (s.data.toList.map (j6 97 65)) Tryz.underlying125 Tryz.underlying5 Tryz.underlying9 (fun j hj=>by
    rw [List.length_map] at hj
    have h1:=hc.out j _ (List.getElem?_eq_getElem hj)
    rw [if_pos (by omega)] at h1
    rw [List.getElem_map]
    rw [show (⟨w.heap.size,0,none⟩:Addr).add j=⟨w.heap.size,j,none⟩ from by cases j <;> simp [Addr.add]]
    simpa using h1)
   rw [List.length_map,hl] at hback
   clear hconv hrow hc hf
   generalize (s.data.toList.map (j6 97 65)).toArray=out at *
   go_wp2
   go_returns
   exact zx.mk rfl hb
def V0 (x:GV):GV × Int:=(GV.text ⟨(x.s.data.toList.map (j6 65 97)).toArray⟩,0)
def V3 (x:GV):GV × Int:=(GV.text ⟨(x.s.data.toList.map (j6 97 65)).toArray⟩,0)
theorem zd4 (x:GV) (hs:x.s.size ≤ 281474976710656):Vu 3 [x] (V0 x):=fun n W v _ ht hv =>
 ⟨_,_,rfl,enters_of Tryz.func217 (by kernel_rfl) rfl,zmL 219 _ (enters_of Tryz.func219 (by kernel_rfl) rfl) x _ _ v W hv ht.lower.1 (fun W' hb=>Jv x.s _ _ W' (za hb ht.lower.2.1) (za hb ht.lower.2.2) hs)⟩
theorem zce (x:GV) (hs:x.s.size ≤ 281474976710656):Vu 4 [x] (V3 x):=fun n W v _ ht hv =>
 ⟨_,_,rfl,enters_of Tryz.func217 (by kernel_rfl) rfl,zmL 219 _ (enters_of Tryz.func219 (by kernel_rfl) rfl) x _ _ v W hv ht.upper.1 (fun W' hb=>J3 x.s _ _ W' (za hb ht.upper.2.1) (za hb ht.upper.2.2) hs)⟩
end Go.Proofs.YtifdakibkadfiaaGreatDoor
end
section
namespace Go.Proofs.YtifdakibkadfiaaGreatDoor
open Go.RowKit Go.Shelf Go
end Go.Proofs.YtifdakibkadfiaaGreatDoor
end
section
namespace Go.Proofs.YtifdakibkadfiaaGreatDoor
open Go.RowKit Go.Shelf Go
def replaceS (s t u:ByteArray):GV × Int:=if t.toList=[] then (GV.text s,0) else if (s.size:Int) + Lib.countB s t * ((u.size:Int) - t.size) > 100000 then (GV.none,30) else (GV.text ⟨(Lib.replaceAll s.data.toList t.data.toList u.data.toList).toArray⟩,0)
theorem zcb (s t u:ByteArray) (v:Value) (w:World) (hv:VS w v [GV.text s,GV.text t,GV.text u]) (hs:s.size ≤ 10000000) (ht:t.size ≤ 10000000) (hu:u.size ≤ 10000000) (hm:zY w) :
  Calls Tryz.prog 202 #[v] w (zx (.tuple #[(replaceS s t u).1.val,.int .i64 (replaceS s t u).2]) w):=by
 obtain ⟨b,o,c,rfl,hc⟩:=hv.row (by simp)
 obtain ⟨m,hm⟩:=hm
 obtain ⟨x0,x1,x2⟩:=hc 0 _ rfl
 obtain ⟨y0,y1,y2⟩:=hc 1 _ rfl
 obtain ⟨z0,z1,z2⟩:=hc 2 _ rfl
 rw [Nat.zero_mul,Nat.add_zero] at x0 x1 x2
 rw [Nat.one_mul] at y0 y1 y2
 simp only [Nat.reduceMul] at z0 z1 z2
 have hlen:[GV.text s,GV.text t,GV.text u].length=3:=rfl
 rw [hlen]
 clear hc hv hlen
 simp only [GV.text] at x0 x1 x2 y0 y1 y2 z0 z1 z2
 unfold replaceS
 have hzb:b < w.heap.size:=zd x0
 have hzb':b < w.heap.size + 1:=by omega
 by_cases h0:t.toList=[]
 ·have h0':(t.toList == [])=true:=beq_iff_eq.2 h0
  rw [if_pos h0]
  unfold GV.val GV.text
  clear h0
  go_enter Tryz.func202,Tryz.ntmps202
  go_wp2
  go_quiet (fail)
  have r0:((w.alloc (.cells #[.int .i64 0,.int .i64 0,.string ⟨#[]⟩] 26)).drewN nq).cell? ⟨w.heap.size,0,none⟩=some (.int .i64 0):=by simp [go_sem]
  have r1:((w.alloc (.cells #[.int .i64 0,.int .i64 0,.string ⟨#[]⟩] 26)).drewN nq).cell? ⟨w.heap.size,1,none⟩=some (.int .i64 0):=by simp [go_sem]
  have r2:((w.alloc (.cells #[.int .i64 0,.int .i64 0,.string ⟨#[]⟩] 26)).drewN nq).cell? ⟨w.heap.size,2,none⟩=some (.string ⟨#[]⟩):=by simp [go_sem]
  have hB:Below w.heap.size w ((w.alloc (.cells #[.int .i64 0,.int .i64 0,.string ⟨#[]⟩] 26)).drewN nq):=yo ((Below.refl _ _).alloc (Nat.le_refl _) _) _
  go_wp2
  refine bodyPost_ret (zl rfl rfl (by with_reducible exact zj r0 r1 r2) (Tryz.isAgg26 _) (Tryz.sizeOf26 _)) rfl ?_
  exact zx.mk rfl (((hB.setCell (Nat.le_refl _) _).setCell (Nat.le_refl _) _).setCell (Nat.le_refl _) _)
 ·have h0':(t.toList == [])=false:=beq_eq_false_iff_ne.2 h0
  have h1:1 ≤ t.size:=by
   rw [Go.ByteArray.toList_eq] at h0
   have:t.size=t.data.toList.length:=rfl
   rw [this]
   exact List.length_pos_iff.2 h0
  have hcs:Lib.countB s t ≤ s.size:=by
   have:=Lib.countB_mul_le t h1 s.size s (Nat.le_refl _)
   exact Nat.le_trans (Nat.le_mul_of_pos_right _ h1) this
  have hlen:s.size + Lib.countB s t * u.size ≤ 140737488355328:=by
   have:Lib.countB s t * u.size ≤ 10000000 * 10000000:=Nat.mul_le_mul (by omega) hu
   omega
  have hR:=fun W (h:W.cell? ⟨0,0,none⟩=some (.int .i64 m))=>Tryz.strings_ReplaceAll s t u m W (by omega) h h1 hlen
  generalize hrr:(⟨(Lib.replaceAll s.data.toList t.data.toList u.data.toList).toArray⟩:ByteArray)=rr at *
  have hT:=fun W=>yv rr W
  rw [if_neg h0]
  unfold GV.val GV.text at hT
  have hC:=fun W (h:W.cell? ⟨0,0,none⟩=some (.int .i64 m))=>Tryz.strings_Count_any s t m W (by omega) h h1
  generalize Lib.countB s t=cnt at *
  have hub:cnt * u.size ≤ 10000000 * 10000000:=Nat.mul_le_mul (by omega) hu
  have htb:cnt * t.size ≤ 10000000 * 10000000:=Nat.mul_le_mul (by omega) ht
  have w1:IntKind.i64.wrap ((u.size:Int) - t.size)=(u.size:Int) - t.size:=by simp [IntKind.wrap,IntKind.signed,IntKind.bits];split <;> omega
  have e1:(cnt:Int) * ((u.size:Int) - t.size)=((cnt * u.size:Nat):Int) - ((cnt * t.size:Nat):Int):=by rw [Int.mul_sub];simp
  have w2:IntKind.i64.wrap ((cnt:Int) * ((u.size:Int) - t.size))=(cnt:Int) * ((u.size:Int) - t.size):=by
   rw [e1];generalize cnt * u.size=p1 at *;generalize cnt * t.size=p2 at *
   simp [IntKind.wrap,IntKind.signed,IntKind.bits];split <;> omega
  have w3:IntKind.i64.wrap ((s.size:Int) + (cnt:Int) * ((u.size:Int) - t.size))=(s.size:Int) + (cnt:Int) * ((u.size:Int) - t.size):=by
   rw [e1];generalize cnt * u.size=p1 at *;generalize cnt * t.size=p2 at *
   simp [IntKind.wrap,IntKind.signed,IntKind.bits];split <;> omega
  clear h0 h1 hub htb e1
  generalize hsz:s.size=z at *
  generalize htz:t.size=tz at *
  generalize huz:u.size=uz at *
  by_cases hov:(z:Int) + (cnt:Int) * ((uz:Int) - tz) > 100000
  ·rw [if_pos hov]
   unfold GV.val GV.none
   clear hR hT
   go_enter Tryz.func202,Tryz.ntmps202
   go_wp2
   go_quiet (fail)
   have r0:((w.alloc (.cells #[.int .i64 0,.int .i64 0,.string ⟨#[]⟩] 26)).drewN nq).cell? ⟨w.heap.size,0,none⟩=some (.int .i64 0):=by simp [go_sem]
   have r1:((w.alloc (.cells #[.int .i64 0,.int .i64 0,.string ⟨#[]⟩] 26)).drewN nq).cell? ⟨w.heap.size,1,none⟩=some (.int .i64 0):=by simp [go_sem]
   have r2:((w.alloc (.cells #[.int .i64 0,.int .i64 0,.string ⟨#[]⟩] 26)).drewN nq).cell? ⟨w.heap.size,2,none⟩=some (.string ⟨#[]⟩):=by simp [go_sem]
   have hB:Below w.heap.size w ((w.alloc (.cells #[.int .i64 0,.int .i64 0,.string ⟨#[]⟩] 26)).drewN nq):=yo ((Below.refl _ _).alloc (Nat.le_refl _) _) _
   have hm2:=za hB hm
   have hf2:∀ o,((w.alloc (.cells #[.int .i64 0,.int .i64 0,.string ⟨#[]⟩] 26)).drewN nq).frozen? ⟨w.heap.size,o,none⟩=false:=fun o=>by simp [go_sem]
   generalize (w.alloc (.cells #[.int .i64 0,.int .i64 0,.string ⟨#[]⟩] 26)).drewN nq=wA at *
   have hz1:w.heap.size < wA.heap.size:=zd r0
   go_wp2_with fail
   refine (hC _ hm2).mono ?_
   rintro e wB ⟨rfl,hw⟩
   obtain rfl:wA=wB:=hw.symm
   have hov':decide ((z:Int) + (cnt:Int) * ((uz:Int) - tz) > 100000)=true:=decide_eq_true hov
   go_wp2
   refine bodyPost_ret (zl rfl rfl (by with_reducible exact zj r0 r1 r2) (Tryz.isAgg26 _) (Tryz.sizeOf26 _)) rfl ?_
   exact zx.mk rfl (((hB.setCell (Nat.le_refl _) _).setCell (Nat.le_refl _) _).setCell (Nat.le_refl _) _)
  ·rw [if_neg hov]
   have hov':decide ((z:Int) + (cnt:Int) * ((uz:Int) - tz) > 100000)=false:=decide_eq_false hov
   unfold GV.val GV.text
   go_enter Tryz.func202,Tryz.ntmps202
   go_wp2
   go_quiet (fail)
   have r0:((w.alloc (.cells #[.int .i64 0,.int .i64 0,.string ⟨#[]⟩] 26)).drewN nq).cell? ⟨w.heap.size,0,none⟩=some (.int .i64 0):=by simp [go_sem]
   have r1:((w.alloc (.cells #[.int .i64 0,.int .i64 0,.string ⟨#[]⟩] 26)).drewN nq).cell? ⟨w.heap.size,1,none⟩=some (.int .i64 0):=by simp [go_sem]
   have r2:((w.alloc (.cells #[.int .i64 0,.int .i64 0,.string ⟨#[]⟩] 26)).drewN nq).cell? ⟨w.heap.size,2,none⟩=some (.string ⟨#[]⟩):=by simp [go_sem]
   have hB:Below w.heap.size w ((w.alloc (.cells #[.int .i64 0,.int .i64 0,.string ⟨#[]⟩] 26)).drewN nq):=yo ((Below.refl _ _).alloc (Nat.le_refl _) _) _
   have hm2:=za hB hm
   have hf2:∀ o,((w.alloc (.cells #[.int .i64 0,.int .i64 0,.string ⟨#[]⟩] 26)).drewN nq).frozen? ⟨w.heap.size,o,none⟩=false:=fun o=>by simp [go_sem]
   generalize (w.alloc (.cells #[.int .i64 0,.int .i64 0,.string ⟨#[]⟩] 26)).drewN nq=wA at *
   have hz1:w.heap.size < wA.heap.size:=zd r0
   go_wp2_with fail
   refine (hC _ hm2).mono ?_
   rintro e wB ⟨rfl,hw⟩
   obtain rfl:wA=wB:=hw.symm
   go_wp2_with fail
   refine (hR _ hm2).mono ?_
   rintro e w3 ⟨rfl,hb3⟩
   have q0:=za hb3 r0
   have q1:=za hb3 r1
   have q2:=za hb3 r2
   have hf3:∀ o,w3.frozen? ⟨w.heap.size,o,none⟩=false:=fun o=>by rw [(zK hb3).2 _ _ (zd r0)];exact hf2 o
   have hB3:=later hB hb3
   have hz3:w.heap.size < w3.heap.size:=zd q0
   go_wp2_with fail
   refine (hT _).mono ?_
   rintro e w4 ⟨rfl,hb4⟩
   have p0:=za hb4 q0
   have p1:=za hb4 q1
   have p2:=za hb4 q2
   have hf4:∀ o,w4.frozen? ⟨w.heap.size,o,none⟩=false:=fun o=>by rw [(zK hb4).2 _ _ (zd q0)];exact hf3 o
   have hB4:=later hB3 hb4
   have hz4:w.heap.size < w4.heap.size:=zd p0
   clear r0 r1 r2 q0 q1 q2 hf2 hf3 hB hB3 hb3 hb4
   go_wp2
   refine bodyPost_ret (zl rfl rfl (by with_reducible exact zj p0 p1 p2) (Tryz.isAgg26 _) (Tryz.sizeOf26 _)) rfl ?_
   exact zx.mk rfl (((hB4.setCell (Nat.le_refl _) _).setCell (Nat.le_refl _) _).setCell (Nat.le_refl _) _)
end Go.Proofs.YtifdakibkadfiaaGreatDoor
end
section
namespace Go.Proofs.YtifdakibkadfiaaGreatDoor
open Go.RowKit Go.Shelf Go
structure kD (l:List GV) (r:GV × Int):Prop where
 i64:I64 r.1.i
 size:r.1.s.size ≤ 100000 ∨ ∃ x,x ∈ l ∧ r.1.s.size ≤ x.s.size
 ok:r.2=0 → r.1.ok=true
theorem kD.none (l:List GV) (e:Int):kD l (GV.none,e):=⟨by simp [GV.none,I64],.inl (by simp [GV.none];decide),fun _=>by simp [GV.none,GV.ok]⟩
theorem kD.num {l:List GV} {n:Int} (h:I64 n) (e:Int):kD l (GV.num n,e):=⟨h,.inl (by simp [GV.num];decide),fun _=>by simp [GV.num,GV.ok]⟩
theorem kD.mem {l:List GV} {x:GV} (hx:x ∈ l) (hi:I64 x.i) (hk:x.ok=true):kD l (x,0):=⟨hi,.inr ⟨x,hx,Nat.le_refl _⟩,fun _=>hk⟩
theorem kD.text {l:List GV} {x:GV} (hx:x ∈ l) {s:ByteArray} (h:s.size ≤ x.s.size):kD l (GV.text s,0):=⟨by simp [GV.text,I64],.inr ⟨x,hx,h⟩,fun _=>Q1 s⟩
theorem QJ (n:Int):I64 (over n).1:=by
 unfold over fits
 split
 ·rename_i h;simpa [I64] using h
 ·simp [I64]
theorem zdG (op:List UInt8) (a b:Int) (hb:I64 b):I64 (zm op a b).1:=by
 unfold zm
 split
 ·exact QJ _
 ·split
  ·exact QJ _
  ·split
   ·exact QJ _
   ·split
    ·simp [I64]
    ·split
     ·split
      ·simp [I64]
      ·rename_i h0 _ _
       have h1:=Int.tmod_lt_of_pos a (b:=b)
       have h2:(a.tmod b).natAbs < b.natAbs:=by rw [Int.natAbs_tmod];exact Nat.mod_lt _ (by omega)
       unfold I64 at hb ⊢
       simp only
       omega
     ·exact QJ _
theorem j0 (op:List UInt8) (l:List GV) (a b:GV) (hb:I64 b.i):kD l (k9 op a b):=by
 unfold k9
 split
 ·exact kD.none l 1
 ·split
  ·exact kD.none l 1
  ·split
   ·exact kD.none l 20
   ·split
    ·exact kD.none l 20
    ·split
     ·exact kD.none l 0
     ·split
      ·exact kD.none l _
      ·exact kD.num (zdG op a.i b.i hb) 0
theorem JC {x:GV} (hk:x.ok=true) (h:x.k=3):x=GV.text x.s:=by
 obtain ⟨k,i,s⟩:=x
 simp only at h
 subst h
 simp [GV.ok] at hk
 simp [GV.text,hk]
theorem QS {x:GV} (hk:x.ok=true):x.k=0 ∨ x.k=1 ∨ x.k=2 ∨ x.k=3 ∨ x.k=4:=by
 unfold GV.ok at hk
 simp only [Bool.or_eq_true,Bool.and_eq_true,beq_iff_eq] at hk
 omega
theorem ziz {x:GV} (hk:x.ok=true) (h0:x.k ≠ 0) (hb:zT x 8=false):x.k=3:=by
 rcases QS hk with h | h | h | h | h
 ·exact absurd h h0
 ·exfalso;obtain ⟨k,i,s⟩:=x;simp only at h;subst h;simp [zT] at hb;revert hb;decide
 ·exfalso;obtain ⟨k,i,s⟩:=x;simp only at h;subst h;simp [zT] at hb;revert hb;decide
 ·exact h
 ·exfalso;obtain ⟨k,i,s⟩:=x;simp only at h;subst h;simp [zT] at hb;revert hb;decide
theorem zlI {x:GV} (hk:x.ok=true) (h0:x.k ≠ 0) (hb:zT x 24=false):x.k=3 ∨ x.k=4:=by
 rcases QS hk with h | h | h | h | h
 ·exact absurd h h0
 ·exfalso;obtain ⟨k,i,s⟩:=x;simp only at h;subst h;simp [zT] at hb;revert hb;decide
 ·exfalso;obtain ⟨k,i,s⟩:=x;simp only at h;subst h;simp [zT] at hb;revert hb;decide
 ·exact .inl h
 ·exact .inr h
theorem zi5 (l:List UInt8) (c:UInt8):(Lib.trimB l c).length ≤ l.length:=by
 unfold Lib.trimB Lib.trimLeftB Lib.trimRightB
 have h1:∀ m:List UInt8,(m.dropWhile (· == c)).length ≤ m.length:=fun m=>(List.dropWhile_sublist _).length_le
 refine Nat.le_trans (h1 _) ?_
 rw [List.length_reverse]
 exact Nat.le_trans (h1 _) (by rw [List.length_reverse];exact Nat.le_refl _)
theorem Qn (old new:List UInt8) (ho:old ≠ []):∀ (k:Nat) (s:List UInt8),k=Lib.count s old → ((Lib.replaceK old new k s).length:Int)=s.length + k * ((new.length:Int) - old.length)
 | 0,s,_=>by simp [Lib.replaceK]
 | k + 1,s,hk=>by
  obtain ⟨i,hi⟩:=Lib.index_of_count (s:=s) (old:=old) (by omega)
  rw [Lib.replaceK_hit old new k s i hi]
  have hc:=Lib.count_hit ho hi
  have hb:=Lib.indexB_cases ⟨s.toArray⟩ ⟨old.toArray⟩
  have hroom:i + old.length ≤ s.length:=by
   have e:Lib.indexB ⟨s.toArray⟩ ⟨old.toArray⟩=i:=by unfold Lib.indexB;simpa using hi
   rcases hb with h | ⟨j,h,h2⟩
   ·rw [e] at h;omega
   ·rw [e] at h
    have h3:(⟨s.toArray⟩:ByteArray).size=s.length:=by simp [ByteArray.size]
    have h4:(⟨old.toArray⟩:ByteArray).size=old.length:=by simp [ByteArray.size]
    omega
  have ih:=Qn old new ho k (s.drop (i + old.length)) (by omega)
  rw [List.length_append,List.length_append,List.length_take,Nat.min_eq_left (by omega)]
  rw [List.length_drop] at ih
  push_cast
  rw [Int.add_mul,Int.one_mul]
  omega
theorem yg (s t u:ByteArray) (ht:t.toList ≠ []):(((⟨(Lib.replaceAll s.data.toList t.data.toList u.data.toList).toArray⟩:ByteArray).size:Nat):Int)=s.size + Lib.countB s t * ((u.size:Int) - t.size):=by
 have ht':t.data.toList ≠ []:=by rw [Go.ByteArray.toList_eq] at ht;exact ht
 have e:∀ l:List UInt8,(⟨l.toArray⟩:ByteArray).size=l.length:=fun l=>by simp [ByteArray.size]
 rw [e]
 unfold Lib.replaceAll Lib.replace
 split
 ·rename_i h
  have h2:t.data.toList=u.data.toList:=by simpa using h
  have:t.size=u.size:=by
   have h3:t.size=t.data.toList.length:=rfl
   have h4:u.size=u.data.toList.length:=rfl
   rw [h3,h4,h2]
  rw [this,Int.sub_self,Int.mul_zero,Int.add_zero];rfl
 ·have:Lib.replaceNum s.data.toList t.data.toList (-1)=Lib.count s.data.toList t.data.toList:=by unfold Lib.replaceNum;rw [if_pos (.inl (by omega))]
  rw [this]
  exact Qn _ _ ht' _ _ rfl
theorem Wx (s t u:ByteArray) {l:List GV} (hl:GV.text s ∈ l):kD l (replaceS s t u):=by
 unfold replaceS
 split
 ·exact kD.text hl (Nat.le_refl _)
 ·rename_i ht
  split
  ·exact kD.none l 30
  ·rename_i hov
   refine ⟨by simp [GV.text,I64],.inl ?_,fun _=>Q1 _⟩
   have:=yg s t u ht
   show (⟨(Lib.replaceAll s.data.toList t.data.toList u.data.toList).toArray⟩:ByteArray).size ≤ 100000
   omega
theorem Xv (s t u:ByteArray) (hs:s.size ≤ 10000000) (ht:t.size ≤ 10000000) (hu:u.size ≤ 10000000):Vu 8 [GV.text s,GV.text t,GV.text u] (replaceS s t u):=fun n W v hm _ hv =>
 ⟨_,_,rfl,enters_of Tryz.func202 (by kernel_rfl) rfl,zcb s t u v W hv hs ht hu hm⟩
theorem Kq (l:List UInt8):(⟨l.toArray⟩:ByteArray).size=l.length:=by simp [ByteArray.size]
theorem size_data (s:ByteArray):s.size=s.data.toList.length:=rfl
def doF:Nat → List GV → GV × Int
 | 0,[x]=>Yj x
 | 1,[x]=>Vj x
 | 2,[x]=>vK x
 | 3,[x]=>V0 x
 | 4,[x]=>V3 x
 | 5,[x]=>QV x
 | 6,[x,y,z]=>qJ x y.i z.i
 | 7,[x,y]=>instrS x y
 | 8,[x,y,z]=>replaceS x.s y.s z.s
 | _,_=>(GV.none,1)
theorem zid (i:Nat) (hi9:i < 9) (l:List GV) (hlen:l.length=(zu.getD i []).length) (hok:∀ x,x ∈ l → x.ok=true) (h0:∀ x,x ∈ l → x.k ≠ 0) (hi:∀ x,x ∈ l → I64 x.i) (hs:∀ x,x ∈ l → x.s.size ≤ 10000000)
  (hg:∀ (j:Nat) (x:GV) (kd:Int),l[j]?=some x → (zu.getD i [])[j]?=some kd → zT x kd=false):Vu i l (doF i l) ∧ kD l (doF i l):=by
 match i,hi9 with
 | 0,_ =>
  obtain ⟨x,rfl⟩:∃ x,l=[x]:=by match l,hlen with | [x],_=>exact ⟨x,rfl⟩
  show Vu 0 [x] (Yj x) ∧ kD [x] (Yj x)
  have hx:x ∈ [x]:=by simp
  refine ⟨zhr x (hi x hx),?_⟩
  unfold Yj
  split
  ·exact j0 _ _ _ _ (hi x hx)
  ·exact kD.mem hx (hi x hx) (hok x hx)
 | 1,_ =>
  obtain ⟨x,rfl⟩:∃ x,l=[x]:=by match l,hlen with | [x],_=>exact ⟨x,rfl⟩
  show Vu 1 [x] (Vj x) ∧ kD [x] (Vj x)
  refine ⟨zfT x,kD.num ?_ 0⟩
  split
  ·simp [I64]
  ·split <;> simp [I64]
 | 2,_ =>
  obtain ⟨x,rfl⟩:∃ x,l=[x]:=by match l,hlen with | [x],_=>exact ⟨x,rfl⟩
  show Vu 2 [x] (vK x) ∧ kD [x] (vK x)
  refine ⟨Kh x,kD.num ?_ 0⟩
  have:=hs x (by simp)
  unfold I64;omega
 | 3,_ =>
  obtain ⟨x,rfl⟩:∃ x,l=[x]:=by match l,hlen with | [x],_=>exact ⟨x,rfl⟩
  show Vu 3 [x] (V0 x) ∧ kD [x] (V0 x)
  have hx:x ∈ [x]:=by simp
  refine ⟨zd4 x (by have:=hs x hx;omega),kD.text hx ?_⟩
  rw [Kq,List.length_map,size_data];exact Nat.le_refl _
 | 4,_ =>
  obtain ⟨x,rfl⟩:∃ x,l=[x]:=by match l,hlen with | [x],_=>exact ⟨x,rfl⟩
  show Vu 4 [x] (V3 x) ∧ kD [x] (V3 x)
  have hx:x ∈ [x]:=by simp
  refine ⟨zce x (by have:=hs x hx;omega),kD.text hx ?_⟩
  rw [Kq,List.length_map,size_data];exact Nat.le_refl _
 | 5,_ =>
  obtain ⟨x,rfl⟩:∃ x,l=[x]:=by match l,hlen with | [x],_=>exact ⟨x,rfl⟩
  show Vu 5 [x] (QV x) ∧ kD [x] (QV x)
  have hx:x ∈ [x]:=by simp
  refine ⟨zgX x (by have:=hs x hx;omega),kD.text hx ?_⟩
  rw [Kq,size_data];exact zi5 _ _
 | 6,_ =>
  obtain ⟨x,y,z,rfl⟩:∃ x y z,l=[x,y,z]:=by match l,hlen with | [x,y,z],_=>exact ⟨x,y,z,rfl⟩
  show Vu 6 [x,y,z] (qJ x y.i z.i) ∧ kD [x,y,z] (qJ x y.i z.i)
  have hx:x ∈ [x,y,z]:=by simp
  refine ⟨KZ x y z (hi y (by simp)) (hi z (by simp)) (by have:=hs x hx;omega),?_⟩
  have hk:=zlI (hok x hx) (h0 x hx) (hg 0 x 24 rfl rfl)
  have hkk:∀ s:ByteArray,(⟨x.k,0,s⟩:GV).ok=true:=fun s=>by
   rcases hk with h | h <;> rw [h] <;> simp [GV.ok]
  have hcut:∀ f n,(zlc x.s f n).size ≤ x.s.size:=fun f n=>by
   unfold zlc
   simp only [ByteArray.size_extract]
   omega
  unfold qJ
  split
  ·exact kD.none _ 1
  ·split
   ·split
    ·exact ⟨by simp [I64],.inl (by simp;decide),fun _=>hkk _⟩
    ·exact ⟨by simp [I64],.inr ⟨x,hx,hcut _ _⟩,fun _=>hkk _⟩
   ·exact ⟨by simp [I64],.inr ⟨x,hx,hcut _ _⟩,fun _=>hkk _⟩
 | 7,_ =>
  obtain ⟨x,y,rfl⟩:∃ x y,l=[x,y]:=by match l,hlen with | [x,y],_=>exact ⟨x,y,rfl⟩
  show Vu 7 [x,y] (instrS x y) ∧ kD [x,y] (instrS x y)
  refine ⟨V9 x y (by have:=hs x (by simp);omega),kD.num ?_ 0⟩
  have h1:=Lib.index_ge x.s.data.toList y.s.data.toList
  have h2:=Lib.index_le x.s.data.toList y.s.data.toList
  have h3:=hs x (by simp)
  rw [size_data] at h3
  unfold I64;omega
 | 8,_ =>
  obtain ⟨x,y,z,rfl⟩:∃ x y z,l=[x,y,z]:=by match l,hlen with | [x,y,z],_=>exact ⟨x,y,z,rfl⟩
  show Vu 8 [x,y,z] (replaceS x.s y.s z.s) ∧ kD [x,y,z] (replaceS x.s y.s z.s)
  have ex:=JC (hok x (by simp)) (ziz (hok x (by simp)) (h0 x (by simp)) (hg 0 x 8 rfl rfl))
  have ey:=JC (hok y (by simp)) (ziz (hok y (by simp)) (h0 y (by simp)) (hg 1 y 8 rfl rfl))
  have ez:=JC (hok z (by simp)) (ziz (hok z (by simp)) (h0 z (by simp)) (hg 2 z 8 rfl rfl))
  have hD:=Xv x.s y.s z.s (hs x (by simp)) (hs y (by simp)) (hs z (by simp))
  have hF:=Wx x.s y.s z.s (l:=[GV.text x.s,GV.text y.s,GV.text z.s]) (.head _)
  rw [← ex,← ey,← ez] at hD hF
  exact ⟨hD,hF⟩
def ze2 (name:ByteArray) (l:List GV) (r:GV × Int):Prop:=∀ (w:World) (v:Value),VS w v l → zY w → Calls Tryz.prog 86 #[.string name,v] w (zx (.tuple #[r.1.val,.int .i64 r.2]) w)
theorem Vn (n:List UInt8):posOf n = -1 ∨ ∃ i:Nat,i < 9 ∧ posOf n=i:=by
 unfold posOf
 split
 ·rename_i i h
  have:=List.findIdx?_eq_some_iff_findIdx_eq.1 h
  exact .inr ⟨i,by have:=this.1;rw [Zw] at this;exact this,rfl⟩
 ·exact .inl rfl
def VJ (name:ByteArray) (l:List GV):GV × Int:=
 if l.all GV.ok=false then (GV.none,1)
 else if (zW name.toList).2.2=false then (GV.none,1)
 else if (l.length:Int) < (zW name.toList).1 then (GV.none,1)
 else if 0 ≤ (zW name.toList).2.1 ∧ (zW name.toList).2.1 < (l.length:Int) then (GV.none,1)
 else if name.toList == qj then (l.getD (max (idxOf (fun v:GV=>v.k != 0) l) 0).toNat GV.none,0)
 else if name.toList == vd then (if XW (l.getD 0 GV.none) (l.getD 1 GV.none) then GV.none else l.getD 0 GV.none,0)
 else if (l.zip (zu.getD (posOf name.toList).toNat [])).any (fun p=>zT p.1 p.2) then (GV.none,20)
 else if l.any (fun x=>x.k == 0) then (GV.none,0)
 else doF (posOf name.toList).toNat l
theorem zeD {l:List GV} {m:List Int} (hl:l.length=m.length):(l.zip m).any (fun p=>zT p.1 p.2)=true ↔ ∃ (j:Nat) (x:GV) (kd:Int),l[j]?=some x ∧ m[j]?=some kd ∧ zT x kd=true:=by
 rw [List.any_eq_true]
 constructor
 ·rintro ⟨⟨x,kd⟩,hm,hb⟩
  obtain ⟨j,hj,he⟩:=List.getElem_of_mem hm
  have hj2:j < l.length ∧ j < m.length:=by rw [List.length_zip] at hj;omega
  rw [List.getElem_zip] at he
  cases he
  exact ⟨j,_,_,List.getElem?_eq_getElem hj2.1,List.getElem?_eq_getElem hj2.2,hb⟩
 ·rintro ⟨j,x,kd,h1,h2,h3⟩
  obtain ⟨g1,e1⟩:=List.getElem?_eq_some_iff.1 h1
  obtain ⟨g2,e2⟩:=List.getElem?_eq_some_iff.1 h2
  refine ⟨(x,kd),?_,h3⟩
  have hj:j < (l.zip m).length:=by rw [List.length_zip];omega
  have:(l.zip m)[j]=(x,kd):=by rw [List.getElem_zip,e1,e2]
  rw [← this];exact List.getElem_mem hj
theorem zkd (name:ByteArray) (l:List GV) (hi:∀ x,x ∈ l → I64 x.i) (hs:∀ x,x ∈ l → x.s.size ≤ 10000000):ze2 name l (VJ name l) ∧ kD l (VJ name l):=by
 obtain ⟨lo,hI,is,har⟩:∃ lo hI is,zW name.toList=(lo,hI,is):=⟨_,_,_,rfl⟩
 have hA:=fun W=>zbT name W lo hI is har
 unfold VJ
 rw [har]
 cases hok:l.all GV.ok
 ·rw [if_pos rfl]
  exact ⟨fun w v hv hm=>ze8 name v l w hv lo hI is hA (fun W hW=>by have:=vx v l W hW hi;rwa [hok] at this),kD.none l 1⟩
 rw [if_neg (by simp)]
 have hC:=fun (v:Value) W (hW:VS W v l)=>by have:=vx v l W hW hi;rwa [hok] at this
 have hall:∀ x,x ∈ l → x.ok=true:=fun x hx=>List.all_eq_true.1 hok x hx
 cases is
 ·rw [if_pos rfl]
  exact ⟨fun w v hv hm=>zfH name v l w hv lo hI false hA (hC v) rfl,kD.none l 1⟩
 rw [if_neg (by simp)]
 by_cases hlo:(l.length:Int) < lo
 ·rw [if_pos hlo]
  exact ⟨fun w v hv hm=>zhf name v l w hv lo hI true hA (hC v) hlo,kD.none l 1⟩
 rw [if_neg hlo]
 by_cases hhi:0 ≤ hI ∧ hI < (l.length:Int)
 ·rw [if_pos hhi]
  exact ⟨fun w v hv hm=>zgk name v l w hv lo hI true hA (hC v) hlo hhi.1 hhi.2,kD.none l 1⟩
 rw [if_neg hhi]
 cases e1:(name.toList == qj)
 ·rw [if_neg (by simp)]
  cases e2:(name.toList == vd)
  ·rw [if_neg (by simp)]
   rcases Vn name.toList with hp | ⟨i,hi9,hp⟩
   ·exfalso
    unfold zW at har
    rw [if_neg (by simpa using e1),if_neg (by simpa using e2),if_pos (by omega)] at har
    simp at har
   ·have hk:=Z8 e1 e2 hp
    rw [har] at hk
    simp only [Prod.mk.injEq,and_true] at hk
    have hlen:l.length=(zu.getD i []).length:=by omega
    have hpi:(posOf name.toList).toNat=i:=by omega
    rw [hpi]
    have hz:=zeD hlen
    by_cases hT:∃ (j:Nat) (x:GV) (kd:Int),l[j]?=some x ∧ (zu.getD i [])[j]?=some kd ∧ zT x kd=true
    ·rw [if_pos (hz.2 hT)]
     refine ⟨fun w v hv hm=>JM name i e1 e2 hp l v w hv hm hi hok hlen _ (fun _=>rfl) (fun hg _=>?_) (fun hg _=>?_),kD.none l 20⟩
     all_goals
      obtain ⟨j,x,kd,h1,h2,h3⟩:=hT
      rw [hg j x kd h1 h2] at h3;cases h3
    ·rw [if_neg (fun h=>hT (hz.1 h))]
     have hg:∀ (j:Nat) (x:GV) (kd:Int),l[j]?=some x → (zu.getD i [])[j]?=some kd → zT x kd=false:=fun j x kd h1 h2=>by
      cases hb:zT x kd
      ·rfl
      ·exact absurd ⟨j,x,kd,h1,h2,hb⟩ hT
     cases hn:(l.any fun x=>x.k == 0)
     ·rw [if_neg (by simp)]
      have h0:∀ x,x ∈ l → x.k ≠ 0:=fun x hx h=>by
       have:=List.any_eq_false.1 hn x hx
       simp [h] at this
      obtain ⟨hD,hF⟩:=zid i hi9 l hlen hall h0 hi hs hg
      exact ⟨fun w v hv hm=>JM name i e1 e2 hp l v w hv hm hi hok hlen _ (fun h=>absurd h hT) (fun _ h=>by rw [hn] at h;cases h) (fun _ _=>hD),hF⟩
     ·rw [if_pos rfl]
      exact ⟨fun w v hv hm=>JM name i e1 e2 hp l v w hv hm hi hok hlen _ (fun h=>absurd h hT) (fun _ _=>rfl) (fun _ h=>by rw [hn] at h;cases h),kD.none l 0⟩
  ·rw [if_pos rfl]
   have har2:lo=2 ∧ hI=2:=by
    unfold zW at har
    rw [if_neg (by simpa using e1),if_pos (by simpa using e2)] at har
    simp only [Prod.mk.injEq] at har
    exact ⟨har.1.symm,har.2.1.symm⟩
   obtain ⟨rfl,rfl⟩:=har2
   obtain ⟨x,y,rfl⟩:∃ x y,l=[x,y]:=by
    have h2:l.length=2:=by omega
    match l,h2 with
    | [x,y],_=>exact ⟨x,y,rfl⟩
   show ze2 name [x,y] (if XW x y then GV.none else x,0) ∧ kD [x,y] (if XW x y then GV.none else x,0)
   refine ⟨fun w v hv hm=>zaM name v [x,y] w hv 2 2 true hA (hC v) hlo (.inr (by simp)) e1 e2 x y rfl rfl (XW x y) rfl _ rfl,?_⟩
   split
   ·exact kD.none _ 0
   ·exact kD.mem (by simp) (hi x (by simp)) (hall x (by simp))
 ·rw [if_pos rfl]
  have har2:lo=1 ∧ hI = -1:=by
   unfold zW at har
   rw [if_pos (by simpa using e1)] at har
   simp only [Prod.mk.injEq] at har
   exact ⟨har.1.symm,har.2.1.symm⟩
  obtain ⟨rfl,rfl⟩:=har2
  have hl1:0 < l.length:=by omega
  have hj:∃ j:Nat,j < l.length ∧ max (idxOf (fun v:GV=>v.k != 0) l) 0=j:=by
   unfold idxOf
   split
   ·rename_i i h
    have:=(List.findIdx?_eq_some_iff_findIdx_eq.1 h).1
    exact ⟨i,this,by omega⟩
   ·exact ⟨0,hl1,rfl⟩
  obtain ⟨j,hj,hm2⟩:=hj
  have hx:=List.getElem?_eq_getElem hj
  rw [hm2,show ((j:Int)).toNat=j from rfl,List.getD_eq_getElem?_getD,hx,Option.getD_some]
  exact ⟨fun w v hv hm=>Wa name v l w hv 1 (-1) true hA (hC v) hlo (by omega) e1 j l[j] hx hm2,kD.mem (List.getElem_mem hj) (hi _ (List.getElem_mem hj)) (hall _ (List.getElem_mem hj))⟩
end Go.Proofs.YtifdakibkadfiaaGreatDoor
end
