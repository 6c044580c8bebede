import Derived.Test.YtifdakibkadfiaaGreatDoorMg2
import Derived.Test.YtifdakibkadfiaaGreatDoorMg1
import Derived.Laws.EntriesVeiled
set_option linter.all false
set_option maxRecDepth 100000
set_option maxHeartbeats 8000000
section
namespace Go.Proofs.YtifdakibkadfiaaGreatDoor
open Go.RowKit Go.Shelf Go
def names:List (List UInt8):=[[97,98,115],[115,105,103,110],[108,101,110,103,116,104],[108,111,119,101,114],[117,112,112,101,114],[116,114,105,109],[115,117,98,115,116,114],[105,110,115,116,114],[114,101,112,108,97,99,101]]
def zu:List (List Int):=[[4],[4],[24],[8],[8],[8],[24,4,4],[8,8],[8,8,8]]
def K9:List Nat:=[0,1,2,3,7,11,13,14,15]
def zm1 (n:Nat):List Value:=
 [.func (.func 193) #[] #[],.func (.func 194) #[] #[],.func (.func 195) #[] #[],
  .func (.func 217) #[] #[.pointer (some ⟨n + 6,0,none⟩)],.func (.func 217) #[] #[.pointer (some ⟨n + 10,0,none⟩)],.func (.func 217) #[] #[.pointer (some ⟨n + 12,0,none⟩)],
  .func (.func 200) #[] #[],.func (.func 201) #[] #[],.func (.func 202) #[] #[]]
def kR (i:Nat):ByteArray:=⟨(names.getD i []).toArray⟩
def y5 (n i:Nat):Value:=.slice (some ⟨n + K9.getD i 0,0,none⟩) (zu.getD i []).length (zu.getD i []).length
def doV (n i:Nat):Value:=(zm1 n).getD i .nilFunc
structure jl (W:World) (n:Nat):Prop where
 cells:∀ i,i < 9 → W.cell? ⟨n + 16,i * 3,none⟩=some (.string (kR i)) ∧ W.cell? ⟨n + 16,i * 3 + 1,none⟩=some (y5 n i) ∧ W.cell? ⟨n + 16,i * 3 + 2,none⟩=some (doV n i)
 kinds:∀ i,i < 9 → ∀ j k,(zu.getD i [])[j]?=some k → W.cell? ⟨n + K9.getD i 0,j,none⟩=some (.int .i64 k)
 lower:W.cell? ⟨n + 6,0,none⟩=some (.func (.func 219) #[] #[.pointer (some ⟨n + 4,0,none⟩),.pointer (some ⟨n + 5,0,none⟩)]) ∧ W.cell? ⟨n + 4,0,none⟩=some (.int .u8 65) ∧ W.cell? ⟨n + 5,0,none⟩=some (.int .u8 97)
 upper:W.cell? ⟨n + 10,0,none⟩=some (.func (.func 219) #[] #[.pointer (some ⟨n + 8,0,none⟩),.pointer (some ⟨n + 9,0,none⟩)]) ∧ W.cell? ⟨n + 8,0,none⟩=some (.int .u8 97) ∧ W.cell? ⟨n + 9,0,none⟩=some (.int .u8 65)
 trim:W.cell? ⟨n + 12,0,none⟩=some (.func (.func 198) #[] #[])
theorem jl.below {W w1:World} {n:Nat} (h:jl W n) (hb:Below W.heap.size W w1):jl w1 n where
 cells i hi:=⟨za hb (h.cells i hi).1,za hb (h.cells i hi).2.1,za hb (h.cells i hi).2.2⟩
 kinds i hi j k hk:=za hb (h.kinds i hi j k hk)
 lower:=⟨za hb h.lower.1,za hb h.lower.2.1,za hb h.lower.2.2⟩
 upper:=⟨za hb h.upper.1,za hb h.upper.2.1,za hb h.upper.2.2⟩
 trim:=za hb h.trim
def Zq (w:World) (l:List Obj):World:=l.foldl World.alloc w
theorem Qt (l:List Obj):∀ w:World,Below w.heap.size w (Zq w l):=by
 induction l with
 | nil=>intro w;exact Below.refl _ _
 | cons o l ih=>intro w;exact later ((Below.refl _ _).alloc (Nat.le_refl _) o) (ih _)
theorem zd3 (l:List Obj):∀ (w:World) (i:Nat) (o:Obj),l[i]?=some o → (Zq w l).heap[w.heap.size + i]?=some o:=by
 induction l with
 | nil=>intro w i o h;simp at h
 | cons x l ih =>
  intro w i o h
  cases i with
  | zero =>
   simp at h;subst h
   have hb:=Qt l (w.alloc x)
   show (Zq (w.alloc x) l).heap[w.heap.size]?=_
   rw [hb.block _ (by simp)]
   exact heap_alloc_new w x
  | succ i =>
   have:=ih (w.alloc x) i o (by simpa using h)
   show (Zq (w.alloc x) l).heap[w.heap.size + (i + 1)]?=_
   rw [show w.heap.size + (i + 1)=(w.alloc x).heap.size + i from by simp;omega]
   exact this
theorem qT {l:List Obj} {w:World} {i t:Nat} {c:Array Value} {j:Nat} {v:Value} (h:l[i]?=some (.cells c t)) (hv:c[j]?=some v):(Zq w l).cell? ⟨w.heap.size + i,j,none⟩=some v:=by
 have:=zd3 l w i _ h
 simp only [World.cell?,this,Option.isSome_none,Bool.false_eq_true,if_false]
 exact hv
def yn (l:List Int):Obj:=.cells (l.map fun n=>Value.int .i64 n).toArray 3
def qC (n i:Nat):List Value:=[.string (kR i),y5 n i,doV n i]
def wi (n:Nat):List Obj:=
 [yn [4],yn [4],yn [24],yn [8],.cells #[.int .u8 65] 5,.cells #[.int .u8 97] 5,.cells #[.func (.func 219) #[] #[.pointer (some ⟨n + 4,0,none⟩),.pointer (some ⟨n + 5,0,none⟩)]] 217,
  yn [8],.cells #[.int .u8 97] 5,.cells #[.int .u8 65] 5,.cells #[.func (.func 219) #[] #[.pointer (some ⟨n + 8,0,none⟩),.pointer (some ⟨n + 9,0,none⟩)]] 217,
  yn [8],.cells #[.func (.func 198) #[] #[]] 217,yn [24,4,4],yn [8,8],yn [8,8,8],
  .cells (qC n 0 ++ qC n 1 ++ qC n 2 ++ qC n 3 ++ qC n 4 ++ qC n 5 ++ qC n 6 ++ qC n 7 ++ qC n 8).toArray 175]
theorem zc0 (n d:Nat) (w:World) (ks:List Int) (h:(wi n)[d]?=some (yn ks)) (j:Nat) (k:Int) (hk:ks[j]?=some k):(Zq w (wi n)).cell? ⟨w.heap.size + d,j,none⟩=some (.int .i64 k):=
 qT (c:=(ks.map fun n=>Value.int .i64 n).toArray) (t:=3) h (by simp [hk])
theorem ziI (w:World):jl (Zq w (wi w.heap.size)) w.heap.size where
 cells i hi:=by
  have h:∀ j v,(qC w.heap.size 0 ++ qC w.heap.size 1 ++ qC w.heap.size 2 ++ qC w.heap.size 3 ++ qC w.heap.size 4 ++ qC w.heap.size 5 ++ qC w.heap.size 6 ++ qC w.heap.size 7 ++ qC w.heap.size 8).toArray[j]?=some v →
    (Zq w (wi w.heap.size)).cell? ⟨w.heap.size + 16,j,none⟩=some v:=fun j v hj=>qT (i:=16) rfl hj
  have hc:i=0 ∨ i=1 ∨ i=2 ∨ i=3 ∨ i=4 ∨ i=5 ∨ i=6 ∨ i=7 ∨ i=8:=by omega
  rcases hc with rfl | rfl | rfl | rfl | rfl | rfl | rfl | rfl | rfl <;> exact ⟨h _ _ rfl,h _ _ rfl,h _ _ rfl⟩
 kinds i hi j k hk:=by
  have hc:i=0 ∨ i=1 ∨ i=2 ∨ i=3 ∨ i=4 ∨ i=5 ∨ i=6 ∨ i=7 ∨ i=8:=by omega
  rcases hc with rfl | rfl | rfl | rfl | rfl | rfl | rfl | rfl | rfl <;> exact zc0 _ _ w _ rfl j k hk
 lower:=⟨qT (i:=6) rfl rfl,qT (i:=4) rfl rfl,qT (i:=5) rfl rfl⟩
 upper:=⟨qT (i:=10) rfl rfl,qT (i:=8) rfl rfl,qT (i:=9) rfl rfl⟩
 trim:=qT (i:=12) rfl rfl
theorem Qz (w:World) :
  Calls Tryz.prog 174 #[] w fun e w'=>e = .returned (.slice (some ⟨w.heap.size + 16,0,none⟩) 9 9) ∧ w'=Zq w (wi w.heap.size):=by
 go_enter Tryz.func174,Tryz.ntmps174
 go_wp2
 go_returns
 exact ⟨rfl,rfl⟩
theorem zma (nm name:ByteArray) (ks d:Value) (B:Nat) (w:World) (hn:w.cell? ⟨B,0,none⟩=some (.string name)) (hB:B < w.heap.size) :
  Calls Tryz.prog 176 #[.agg #[.string nm,ks,d],.pointer (some ⟨B,0,none⟩)] w (zx (.bool (nm.toList == name.toList)) w):=by
 go_enter Tryz.func176,Tryz.ntmps176
 go_wp2
 go_returns
 exact zx.bool rfl (by go_grown)
end Go.Proofs.YtifdakibkadfiaaGreatDoor
end
section
namespace Go.Proofs.YtifdakibkadfiaaGreatDoor
open Go.RowKit Go.Shelf Go
def posOf (name:List UInt8):Int:=match names.findIdx? (· == name) with | some i=>i | none=>-1
theorem Zw:names.length=9:=rfl
theorem zfI {name:List UInt8} {k:Nat} (hk:k < 9) (h:(names.getD k [] == name)=true) (hn:∀ j,j < k → (names.getD j [] == name)=false):posOf name=k:=by
 unfold posOf
 have:names.findIdx? (· == name)=some k:=by
  rw [List.findIdx?_eq_some_iff_getElem]
  have hl:k < names.length:=by rw [Zw];exact hk
  refine ⟨hl,?_,fun j hj=>?_⟩
  ·rw [List.getD_eq_getElem?_getD,List.getElem?_eq_getElem hl] at h;exact h
  ·have:=hn j hj
   rw [List.getD_eq_getElem?_getD,List.getElem?_eq_getElem (by omega)] at this
   simp only [Option.getD_some] at this
   rw [this];exact Bool.false_ne_true
 rw [this]
theorem zdX {name:List UInt8} (hn:∀ j,j < 9 → (names.getD j [] == name)=false):posOf name = -1:=by
 unfold posOf
 have:names.findIdx? (· == name)=none:=by
  rw [List.findIdx?_eq_none_iff]
  intro x hx
  obtain ⟨j,hj,he⟩:=List.getElem_of_mem hx
  have:=hn j (by rw [Zw] at hj;exact hj)
  rw [List.getD_eq_getElem?_getD,List.getElem?_eq_getElem hj] at this
  rw [← he];exact this
 rw [this]
theorem zbF (name:List UInt8):posOf name < 9 ∧ -1 ≤ posOf name:=by
 unfold posOf
 cases h:names.findIdx? (· == name) with
 | none=>exact ⟨by decide,by decide⟩
 | some i =>
  rw [List.findIdx?_eq_some_iff_getElem] at h
  obtain ⟨hl,_⟩:=h
  rw [Zw] at hl
  exact ⟨by simp only [];omega,by simp only [];omega⟩
theorem WJ (i:Nat):(kR i).toList=names.getD i []:=by
 unfold kR;rw [Go.ByteArray.toList_eq]
theorem zac (n B:Nat) (name:ByteArray) (w:World) (ht:jl w n) (hn:w.cell? ⟨B,0,none⟩=some (.string name)) :
  Calls Tryz.prog 175 #[.slice (some ⟨n + 16,0,none⟩) 9 9,.func (.func 176) #[] #[.pointer (some ⟨B,0,none⟩)]] w (zx (.int .i64 (posOf name.toList)) w):=by
 have hB:B < w.heap.size:=zd hn
 have hcall:=fun (W:World) (hb:Below w.heap.size w W) nm ks d=>zma nm name ks d B W (za hb hn) (Nat.lt_of_lt_of_le hB hb.size)
 have hrow:=fun (W:World) (hb:Below w.heap.size w W) k hk=>(ht.below hb).cells k hk
 clear ht hn
 go_enter Tryz.func175,Tryz.ntmps175
 go_wp2
 go_loopw [5,8] (fun _ s8 wr=>∃ k:Nat,k ≤ 9 ∧ s8 = .int .i64 k ∧ Below w.heap.size w wr ∧ Hid (∀ j,j < k → (names.getD j [] == name.toList)=false)) (fun _ s8 _=>9 - (intOf s8).toNat)
 case atStart=>exact ⟨0,Nat.zero_le _,rfl,Below.refl _ _,fun j hj=>absurd hj (Nat.not_lt_zero _)⟩
 case round =>
  obtain ⟨k,hk,rfl,hb,hn⟩:=hrel
  by_cases hlt:k < 9
  ·obtain ⟨d0,d1,d2⟩:=hrow wr hb k hlt
   have hc:=hcall wr hb (kR k) (y5 n k) (doV n k)
   clear hrow hcall
   rw [WJ] at hc
   generalize kR k=nm at *
   generalize y5 n k=kv at *
   generalize doV n k=dv at *
   cases hq:(names.getD k [] == name.toList) with
   | true =>
    rw [hq] at hc
    have HQ:=Lib.hid hq
    clear hq
    go_wp2_with (go_at_call 176;refine hc.mono ?_;rintro e w' ⟨rfl,hb'⟩)
    go_returns
    exact zx.int (zfI hlt HQ.out hn.out).symm (hb.trans (hb'.mono hb.size))
   | false =>
    rw [hq] at hc
    have HQ:=Lib.hid hq
    clear hq
    go_wp2_with (go_at_call 176;refine hc.mono ?_;rintro e w' ⟨rfl,hb'⟩)
    go_roundw
    case rel =>
     refine ⟨k + 1,by omega,by go_num,hb.trans (hb'.mono hb.size),fun j hj=>?_⟩
     rcases Nat.lt_succ_iff_lt_or_eq.1 hj with h | rfl
     ·exact hn.out j h
     ·exact HQ.out
    case measure=>simp [intOf];omega
  ·have:k=9:=by omega
   have hn':Hid (∀ j,j < 9 → (names.getD j [] == name.toList)=false):=by subst this;exact hn
   clear hrow hcall hn this
   go_wp2
   go_returns
   exact zx.int (zdX hn'.out).symm hb
theorem zU {w:World} {p a:Addr} {u v:Value} (h:w.cell? a=some v) (hne:a.block ≠ p.block):(w.setCell p u).cell? a=some v:=by
 rw [World.cell?_of_block (w:=w) (heap_setCell_other w p a.block u hne)];exact h
theorem jl.setCell {W:World} {n:Nat} (h:jl W n) {p:Addr} (hp:p.block < n) (u:Value):jl (W.setCell p u) n where
 cells i hi:=⟨zU (h.cells i hi).1 (by simp only [];omega),zU (h.cells i hi).2.1 (by simp only [];omega),zU (h.cells i hi).2.2 (by simp only [];omega)⟩
 kinds i hi j k hk:=zU (h.kinds i hi j k hk) (by simp only [];omega)
 lower:=⟨zU h.lower.1 (by simp only [];omega),zU h.lower.2.1 (by simp only [];omega),zU h.lower.2.2 (by simp only [];omega)⟩
 upper:=⟨zU h.upper.1 (by simp only [];omega),zU h.upper.2.1 (by simp only [];omega),zU h.upper.2.2 (by simp only [];omega)⟩
 trim:=zU h.trim (by simp only [];omega)
theorem JW (n i:Nat) (hi:i < 9):∃ g cap,doV n i = .func (.func g) #[] cap:=by
 have hc:i=0 ∨ i=1 ∨ i=2 ∨ i=3 ∨ i=4 ∨ i=5 ∨ i=6 ∨ i=7 ∨ i=8:=by omega
 rcases hc with rfl | rfl | rfl | rfl | rfl | rfl | rfl | rfl | rfl <;> exact ⟨_,_,rfl⟩
def ziy (name:List UInt8) (w:World) (e:Ending) (w':World):Prop:=
 Below w.heap.size w w' ∧
 ((posOf name = -1 ∧ e = .returned (.tuple #[.agg #[.string ⟨#[]⟩,.slice none 0 0,.nilFunc],.bool false])) ∨
  ∃ i n:Nat,i < 9 ∧ posOf name=i ∧ w.heap.size ≤ n ∧ jl w' n ∧ e = .returned (.tuple #[.agg #[.string (kR i),y5 n i,doV n i],.bool true]))
theorem Kx (name:ByteArray) (w:World) :
  Calls Tryz.prog 128 #[.string name] w (ziy name.toList w):=by
 have hf:=fun W=>Qz W
 go_enter Tryz.func128,Tryz.ntmps128
 go_wp2_with fail
 refine (hf _).mono ?_
 rintro e w1 ⟨rfl,hw⟩
 have hb1:=Qt (wi ((w.alloc (.cells #[.string name] 9)).alloc (.cells #[.string ⟨#[]⟩,.slice none 0 0,.nilFunc] 175)).heap.size) ((w.alloc (.cells #[.string name] 9)).alloc (.cells #[.string ⟨#[]⟩,.slice none 0 0,.nilFunc] 175))
 have ht:=ziI ((w.alloc (.cells #[.string name] 9)).alloc (.cells #[.string ⟨#[]⟩,.slice none 0 0,.nilFunc] 175))
 rw [← hw] at hb1 ht
 clear hw
 have nb:=za hb1 (a:=⟨w.heap.size,0,none⟩) (v:=.string name) (by simp [go_sem])
 have r0:=za hb1 (a:=⟨w.heap.size + 1,0,none⟩) (v:=.string ⟨#[]⟩) (by simp [go_sem])
 have r1:=za hb1 (a:=⟨w.heap.size + 1,1,none⟩) (v:=.slice none 0 0) (by simp [go_sem])
 have r2:=za hb1 (a:=⟨w.heap.size + 1,2,none⟩) (v:=.nilFunc) (by simp [go_sem])
 have hB:=later (w:=w) (by go_grown) hb1
 have fz0:∀ o,w1.frozen? ⟨w.heap.size + 1,o,none⟩=false:=fun o=>by rw [(zK hb1).2 _ _ (by simp)];simp [go_sem]
 have hix:=zac _ _ name w1 ht nb
 have hsz:((w.alloc (.cells #[.string name] 9)).alloc (.cells #[.string ⟨#[]⟩,.slice none 0 0,.nilFunc] 175)).heap.size=w.heap.size + 1 + 1:=by simp
 rw [hsz] at hix ht
 clear hb1 hf hsz
 go_wp2_with fail
 refine hix.mono ?_
 rintro e w2 ⟨rfl,hb2⟩
 have q0:=za hb2 r0
 have q1:=za hb2 r1
 have q2:=za hb2 r2
 have hz:w.heap.size + 1 < w2.heap.size:=zd q0
 have fz:∀ o,w2.frozen? ⟨w.heap.size + 1,o,none⟩=false:=fun o=>by rw [(zK hb2).2 _ _ (zd r0)];exact fz0 o
 have hB2:=later hB hb2
 have ht2:=ht.below hb2
 have hp:=zbF name.toList
 clear ht hix hb2 r0 r1 r2 nb hB fz0
 generalize hpos:posOf name.toList=pos at *
 have HP:=Lib.hid hpos;clear hpos
 by_cases h0:pos < 0
 ·have h1:pos = -1:=by omega
  subst h1
  clear hp h0 ht2
  go_wp2
  refine bodyPost_ret (zl rfl rfl (by first | with_reducible exact zj q0 q1 q2) (Tryz.isAgg175 _) (Tryz.sizeOf175 _)) rfl ?_
  exact ⟨by go_grown,.inl ⟨HP.out,rfl⟩⟩
 ·obtain ⟨i,rfl⟩:∃ i:Nat,pos=i:=⟨pos.toNat,by omega⟩
  have hi:i < 9:=by omega
  obtain ⟨c0,c1,c2⟩:=ht2.cells i hi
  have HT:=Lib.hid ht2
  clear hp h0 ht2
  obtain ⟨g,cap,hdv⟩:=JW (w.heap.size + 1 + 1) i hi
  rw [hdv] at c2
  have HK:y5 (w.heap.size + 1 + 1) i = .slice (some ⟨w.heap.size + 1 + 1 + K9.getD i 0,0,none⟩) (zu.getD i []).length (zu.getD i []).length:=rfl
  rw [HK] at c1
  have HD:=Lib.hid hdv
  clear hdv HK
  generalize hnm:kR i=nm at *
  generalize hkb:w.heap.size + 1 + 1 + K9.getD i 0=kb at *
  generalize hkl:(zu.getD i []).length=kl at *
  have HN:=Lib.hid hnm;have HKB:=Lib.hid hkb;have HKL:=Lib.hid hkl
  clear hnm hkb hkl
  go_wp2
  refine bodyPost_ret (zl rfl rfl (by first | with_reducible exact zj q0 q1 q2) (Tryz.isAgg175 _) (Tryz.sizeOf175 _)) rfl ?_
  refine ⟨by go_grown,.inr ⟨i,w.heap.size + 1 + 1,hi,HP.out,by omega,?_,?_⟩⟩
  ·exact ((HT.out.setCell (by simp only [];omega) _).setCell (by simp only [];omega) _).setCell (by simp only [];omega) _
  ·rw [HD.out,HN.out];unfold y5;rw [HKB.out,HKL.out];rfl
end Go.Proofs.YtifdakibkadfiaaGreatDoor
end
section
namespace Go.Proofs.YtifdakibkadfiaaGreatDoor
open Go.RowKit Go.Shelf Go
def qj:List UInt8:=[99,111,97,108,101,115,99,101]
def vd:List UInt8:=[110,117,108,108,105,102]
def zW (name:List UInt8):Int × Int × Bool:=
 if name=qj then (1,-1,true)
 else if name=vd then (2,2,true)
 else if posOf name < 0 then (0,0,false)
 else (((zu.getD (posOf name).toNat []).length:Nat),((zu.getD (posOf name).toNat []).length:Nat),true)
def jn (p:Int × Int × Bool) (w:World) (e:Ending) (w':World):Prop:=zx (.tuple #[.int .i64 p.1,.int .i64 p.2.1,.bool p.2.2]) w e w'
theorem jn.mk {a b:Int} {c:Bool} {p:Int × Int × Bool} {w w':World} (h:p=(a,b,c)) (hb:Below w.heap.size w w'):jn p w (.returned (.tuple #[.int .i64 a,.int .i64 b,.bool c])) w':=⟨by rw [h],hb⟩
theorem Xd (name:ByteArray) (w:World) :
  Calls Tryz.prog 124 #[.string name] w (jn (zW name.toList) w):=by
 generalize hp:zW name.toList=p
 have HP:=Lib.hid hp;clear hp
 by_cases h1:name.toList=qj
 ·have e1:(name.toList == [99,111,97,108,101,115,99,101])=true:=by rw [h1];rfl
  go_enter Tryz.func124,Tryz.ntmps124
  have H1:=Lib.hid h1;clear h1
  go_wp2
  go_returns
  exact jn.mk (by rw [← HP.out];unfold zW;rw [if_pos H1.out]) (Below.refl _ _)
 ·have e1:(name.toList == [99,111,97,108,101,115,99,101])=false:=beq_eq_false_iff_ne.2 h1
  by_cases h2:name.toList=vd
  ·have e2:(name.toList == [110,117,108,108,105,102])=true:=by rw [h2];rfl
   have H1:=Lib.hid h1;clear h1
   have H2:=Lib.hid h2;clear h2
   go_enter Tryz.func124,Tryz.ntmps124
   go_wp2
   go_returns
   exact jn.mk (by rw [← HP.out];unfold zW;rw [if_neg H1.out,if_pos H2.out]) (Below.refl _ _)
  ·have e2:(name.toList == [110,117,108,108,105,102])=false:=beq_eq_false_iff_ne.2 h2
   have H1:=Lib.hid h1;clear h1
   have H2:=Lib.hid h2;clear h2
   have hf:=Kx name w
   go_enter Tryz.func124,Tryz.ntmps124
   go_wp2_with fail
   refine hf.mono ?_
   rintro e w1 ⟨hb1,⟨hpos,rfl⟩ | ⟨i,n,hi,hpos,hn,ht,rfl⟩⟩
   ·have HPO:=Lib.hid hpos;clear hpos hf
    go_wp2
    go_quiet (fail)
    go_wp2
    go_returns
    exact jn.mk (by rw [← HP.out];unfold zW;rw [if_neg H1.out,if_neg H2.out,HPO.out];rfl) (yo (hb1.alloc hb1.size _) _)
   ·have HPO:=Lib.hid hpos;clear hpos hf ht
    unfold y5
    generalize hkl:(zu.getD i []).length=kl at *
    have HK:=Lib.hid hkl;clear hkl
    obtain ⟨g,cap,hd⟩:=JW n i hi
    rw [hd]
    clear hd
    go_wp2
    go_quiet (fail)
    go_wp2
    go_returns
    exact jn.mk (by rw [← HP.out];unfold zW;rw [if_neg H1.out,if_neg H2.out,HPO.out,if_neg (by omega)];simp only [Int.toNat_natCast,HK.out]) (yo (hb1.alloc hb1.size _) _)
end Go.Proofs.YtifdakibkadfiaaGreatDoor
end
section
namespace Go.Proofs.YtifdakibkadfiaaGreatDoor
open Go.RowKit Go.Shelf Go
def XW (a b:GV):Bool:=a.k == b.k && a.i == b.i && a.s.toList == b.s.toList
theorem zO {a b:ByteArray} (h:a.toList=b.toList):a=b:=by
 rw [Go.ByteArray.toList_eq,Go.ByteArray.toList_eq] at h
 obtain ⟨⟨x⟩⟩:=a;obtain ⟨⟨y⟩⟩:=b
 simp only at h;rw [h]
theorem VO (a b:GV) (w:World) :
  Calls Tryz.prog 127 #[a.val,b.val] w (zx (.bool (XW a b)) w):=by
 unfold GV.val
 generalize hp:XW a b=p
 have HP:=Lib.hid hp;clear hp
 go_enter Tryz.func127,Tryz.ntmps127
 go_wp2
 all_goals go_returns
 all_goals refine zx.bool ?_ (by go_grown)
 all_goals go_light
 all_goals (rw [← HP.out];clear HP;unfold XW;simp_all)
end Go.Proofs.YtifdakibkadfiaaGreatDoor
end
section
namespace Go.Proofs.YtifdakibkadfiaaGreatDoor
open Go.RowKit Go.Shelf Go
abbrev zng:Nat:=86
theorem ze8 (name:ByteArray) (v:Value) (l:List GV) (w:World) (hv:VS w v l) (lo hi:Int) (is:Bool) (har:∀ W,Calls Tryz.prog 124 #[.string name] W (zx (.tuple #[.int .i64 lo,.int .i64 hi,.bool is]) W))
  (hck:∀ W,VS W v l → Calls Tryz.prog 105 #[v] W (zx (.bool false) W))  :
  Calls Tryz.prog 86 #[.string name,v] w (zx (.tuple #[GV.none.val,.int .i64 1]) w):=by
 have hv0:=Lib.hid hv
 obtain ⟨A,c,rfl,hlen,hcell⟩:=hv
 generalize hn:l.length=n at *
 have HN:=Lib.hid hn;clear hn
 go_enter Tryz.func86,Tryz.ntmps86
 go_wp2_with fail
 refine (har _).mono ?_
 rintro e w1 ⟨rfl,hb1⟩
 have r0:=za hb1 (a:=⟨w.heap.size,0,none⟩) (v:=.int .i64 0) (by simp [go_sem])
 have r1:=za hb1 (a:=⟨w.heap.size,1,none⟩) (v:=.int .i64 0) (by simp [go_sem])
 have r2:=za hb1 (a:=⟨w.heap.size,2,none⟩) (v:=.string ⟨#[]⟩) (by simp [go_sem])
 have z1:∀ o,w1.frozen? ⟨w.heap.size,o,none⟩=false:=fun o=>by rw [(zK hb1).2 _ _ (by simp)];simp [go_sem]
 have hB1:=later (w:=w) (by go_grown) hb1
 clear hb1
 go_wp2_with fail
 refine (hck _ (hv0.out.below hB1)).mono ?_
 rintro e w2 ⟨rfl,hb2⟩
 have q0:=za hb2 r0
 have q1:=za hb2 r1
 have q2:=za hb2 r2
 have hz:w.heap.size < w2.heap.size:=zd q0
 have z2:∀ o,w2.frozen? ⟨w.heap.size,o,none⟩=false:=fun o=>by rw [(zK hb2).2 _ _ (zd r0)];exact z1 o
 have hB:=later hB1 hb2
 clear r0 r1 r2 z1 hB1 hb2 hck har
 clear hcell hlen
 go_wp2
 refine bodyPost_ret (zl rfl rfl (by first | with_reducible exact zj q0 q1 q2 | with_reducible exact zb (zj q0 q1 q2) | with_reducible exact zb (zb (zj q0 q1 q2))) (Tryz.isAgg26 _) (Tryz.sizeOf26 _)) rfl ?_
 exact zx.mk rfl (by go_grown)
theorem zfH (name:ByteArray) (v:Value) (l:List GV) (w:World) (hv:VS w v l) (lo hi:Int) (is:Bool) (har:∀ W,Calls Tryz.prog 124 #[.string name] W (zx (.tuple #[.int .i64 lo,.int .i64 hi,.bool false]) W))
  (hck:∀ W,VS W v l → Calls Tryz.prog 105 #[v] W (zx (.bool true) W)) (_:is=false) :
  Calls Tryz.prog 86 #[.string name,v] w (zx (.tuple #[GV.none.val,.int .i64 1]) w):=by
 have hv0:=Lib.hid hv
 obtain ⟨A,c,rfl,hlen,hcell⟩:=hv
 generalize hn:l.length=n at *
 have HN:=Lib.hid hn;clear hn
 go_enter Tryz.func86,Tryz.ntmps86
 go_wp2_with fail
 refine (har _).mono ?_
 rintro e w1 ⟨rfl,hb1⟩
 have r0:=za hb1 (a:=⟨w.heap.size,0,none⟩) (v:=.int .i64 0) (by simp [go_sem])
 have r1:=za hb1 (a:=⟨w.heap.size,1,none⟩) (v:=.int .i64 0) (by simp [go_sem])
 have r2:=za hb1 (a:=⟨w.heap.size,2,none⟩) (v:=.string ⟨#[]⟩) (by simp [go_sem])
 have z1:∀ o,w1.frozen? ⟨w.heap.size,o,none⟩=false:=fun o=>by rw [(zK hb1).2 _ _ (by simp)];simp [go_sem]
 have hB1:=later (w:=w) (by go_grown) hb1
 clear hb1
 go_wp2_with fail
 refine (hck _ (hv0.out.below hB1)).mono ?_
 rintro e w2 ⟨rfl,hb2⟩
 have q0:=za hb2 r0
 have q1:=za hb2 r1
 have q2:=za hb2 r2
 have hz:w.heap.size < w2.heap.size:=zd q0
 have z2:∀ o,w2.frozen? ⟨w.heap.size,o,none⟩=false:=fun o=>by rw [(zK hb2).2 _ _ (zd r0)];exact z1 o
 have hB:=later hB1 hb2
 clear r0 r1 r2 z1 hB1 hb2 hck har
 clear hcell hlen
 go_wp2
 refine bodyPost_ret (zl rfl rfl (by first | with_reducible exact zj q0 q1 q2 | with_reducible exact zb (zj q0 q1 q2) | with_reducible exact zb (zb (zj q0 q1 q2))) (Tryz.isAgg26 _) (Tryz.sizeOf26 _)) rfl ?_
 exact zx.mk rfl (by go_grown)
theorem zhf (name:ByteArray) (v:Value) (l:List GV) (w:World) (hv:VS w v l) (lo hi:Int) (is:Bool) (har:∀ W,Calls Tryz.prog 124 #[.string name] W (zx (.tuple #[.int .i64 lo,.int .i64 hi,.bool true]) W))
  (hck:∀ W,VS W v l → Calls Tryz.prog 105 #[v] W (zx (.bool true) W)) (hl:(l.length:Int) < lo) :
  Calls Tryz.prog 86 #[.string name,v] w (zx (.tuple #[GV.none.val,.int .i64 1]) w):=by
 have hv0:=Lib.hid hv
 obtain ⟨A,c,rfl,hlen,hcell⟩:=hv
 generalize hn:l.length=n at *
 have HN:=Lib.hid hn;clear hn
 go_enter Tryz.func86,Tryz.ntmps86
 go_wp2_with fail
 refine (har _).mono ?_
 rintro e w1 ⟨rfl,hb1⟩
 have r0:=za hb1 (a:=⟨w.heap.size,0,none⟩) (v:=.int .i64 0) (by simp [go_sem])
 have r1:=za hb1 (a:=⟨w.heap.size,1,none⟩) (v:=.int .i64 0) (by simp [go_sem])
 have r2:=za hb1 (a:=⟨w.heap.size,2,none⟩) (v:=.string ⟨#[]⟩) (by simp [go_sem])
 have z1:∀ o,w1.frozen? ⟨w.heap.size,o,none⟩=false:=fun o=>by rw [(zK hb1).2 _ _ (by simp)];simp [go_sem]
 have hB1:=later (w:=w) (by go_grown) hb1
 clear hb1
 go_wp2_with fail
 refine (hck _ (hv0.out.below hB1)).mono ?_
 rintro e w2 ⟨rfl,hb2⟩
 have q0:=za hb2 r0
 have q1:=za hb2 r1
 have q2:=za hb2 r2
 have hz:w.heap.size < w2.heap.size:=zd q0
 have z2:∀ o,w2.frozen? ⟨w.heap.size,o,none⟩=false:=fun o=>by rw [(zK hb2).2 _ _ (zd r0)];exact z1 o
 have hB:=later hB1 hb2
 clear r0 r1 r2 z1 hB1 hb2 hck har
 clear hcell hlen
 go_wp2
 refine bodyPost_ret (zl rfl rfl (by first | with_reducible exact zj q0 q1 q2 | with_reducible exact zb (zj q0 q1 q2) | with_reducible exact zb (zb (zj q0 q1 q2))) (Tryz.isAgg26 _) (Tryz.sizeOf26 _)) rfl ?_
 exact zx.mk rfl (by go_grown)
theorem zgk (name:ByteArray) (v:Value) (l:List GV) (w:World) (hv:VS w v l) (lo hi:Int) (is:Bool) (har:∀ W,Calls Tryz.prog 124 #[.string name] W (zx (.tuple #[.int .i64 lo,.int .i64 hi,.bool true]) W))
  (hck:∀ W,VS W v l → Calls Tryz.prog 105 #[v] W (zx (.bool true) W)) (hl:¬ (l.length:Int) < lo) (hh:0 ≤ hi) (hg:hi < (l.length:Int)) :
  Calls Tryz.prog 86 #[.string name,v] w (zx (.tuple #[GV.none.val,.int .i64 1]) w):=by
 have hv0:=Lib.hid hv
 obtain ⟨A,c,rfl,hlen,hcell⟩:=hv
 generalize hn:l.length=n at *
 have HN:=Lib.hid hn;clear hn
 go_enter Tryz.func86,Tryz.ntmps86
 go_wp2_with fail
 refine (har _).mono ?_
 rintro e w1 ⟨rfl,hb1⟩
 have r0:=za hb1 (a:=⟨w.heap.size,0,none⟩) (v:=.int .i64 0) (by simp [go_sem])
 have r1:=za hb1 (a:=⟨w.heap.size,1,none⟩) (v:=.int .i64 0) (by simp [go_sem])
 have r2:=za hb1 (a:=⟨w.heap.size,2,none⟩) (v:=.string ⟨#[]⟩) (by simp [go_sem])
 have z1:∀ o,w1.frozen? ⟨w.heap.size,o,none⟩=false:=fun o=>by rw [(zK hb1).2 _ _ (by simp)];simp [go_sem]
 have hB1:=later (w:=w) (by go_grown) hb1
 clear hb1
 go_wp2_with fail
 refine (hck _ (hv0.out.below hB1)).mono ?_
 rintro e w2 ⟨rfl,hb2⟩
 have q0:=za hb2 r0
 have q1:=za hb2 r1
 have q2:=za hb2 r2
 have hz:w.heap.size < w2.heap.size:=zd q0
 have z2:∀ o,w2.frozen? ⟨w.heap.size,o,none⟩=false:=fun o=>by rw [(zK hb2).2 _ _ (zd r0)];exact z1 o
 have hB:=later hB1 hb2
 clear r0 r1 r2 z1 hB1 hb2 hck har
 clear hcell hlen
 go_wp2
 refine bodyPost_ret (zl rfl rfl (by first | with_reducible exact zj q0 q1 q2 | with_reducible exact zb (zj q0 q1 q2) | with_reducible exact zb (zb (zj q0 q1 q2))) (Tryz.isAgg26 _) (Tryz.sizeOf26 _)) rfl ?_
 exact zx.mk rfl (by go_grown)
theorem zlT (v:GV) (w:World) :
  Calls Tryz.prog 126 #[v.val] w (zx (.bool (v.k != 0)) w):=by
 unfold GV.val at *
 go_enter Tryz.func126,Tryz.ntmps126
 go_wp2
 go_returns
 exact zx.bool rfl ((Below.refl _ _).alloc (Nat.le_refl _) _)
theorem Wa (name:ByteArray) (v:Value) (l:List GV) (w:World) (hv:VS w v l) (lo hi:Int) (is:Bool) (har:∀ W,Calls Tryz.prog 124 #[.string name] W (zx (.tuple #[.int .i64 lo,.int .i64 hi,.bool true]) W))
  (hck:∀ W,VS W v l → Calls Tryz.prog 105 #[v] W (zx (.bool true) W)) (hl:¬ (l.length:Int) < lo) (hh:hi < 0) (e1:(name.toList == [99,111,97,108,101,115,99,101])=true) (j:Nat) (x:GV) (hj:l[j]?=some x) (hm:max (idxOf (fun v=>v.k != 0) l) 0=j) :
  Calls Tryz.prog 86 #[.string name,v] w (zx (.tuple #[x.val,.int .i64 0]) w):=by
 have hv0:=Lib.hid hv
 obtain ⟨A,c,rfl,hlen,hcell⟩:=hv
 generalize hn:l.length=n at *
 have HN:=Lib.hid hn;clear hn
 obtain ⟨b,o,rfl,c0,c1,c2⟩:=hcell j x hj
 have hjn:j < n:=by have:=(List.getElem?_eq_some_iff.1 hj).1;rw [HN.out] at this;exact this
 clear hcell
 have HJ:=Lib.hid hj;clear hj
 go_enter Tryz.func86,Tryz.ntmps86
 go_wp2_with fail
 refine (har _).mono ?_
 rintro e w1 ⟨rfl,hb1⟩
 have r0:=za hb1 (a:=⟨w.heap.size,0,none⟩) (v:=.int .i64 0) (by simp [go_sem])
 have r1:=za hb1 (a:=⟨w.heap.size,1,none⟩) (v:=.int .i64 0) (by simp [go_sem])
 have r2:=za hb1 (a:=⟨w.heap.size,2,none⟩) (v:=.string ⟨#[]⟩) (by simp [go_sem])
 have z1:∀ o,w1.frozen? ⟨w.heap.size,o,none⟩=false:=fun o=>by rw [(zK hb1).2 _ _ (by simp)];simp [go_sem]
 have hB1:=later (w:=w) (by go_grown) hb1
 clear hb1
 go_wp2_with fail
 refine (hck _ (hv0.out.below hB1)).mono ?_
 rintro e w2 ⟨rfl,hb2⟩
 have q0:=za hb2 r0
 have q1:=za hb2 r1
 have q2:=za hb2 r2
 have hz:w.heap.size < w2.heap.size:=zd q0
 have z2:∀ o,w2.frozen? ⟨w.heap.size,o,none⟩=false:=fun o=>by rw [(zK hb2).2 _ _ (zd r0)];exact z1 o
 have hB:=later hB1 hb2
 clear r0 r1 r2 z1 hB1 hb2 hck har
 have hx:=w7 126 #[] (enters_of Tryz.func126 (by kernel_rfl) rfl) (fun x=>x.k != 0) _ l w2 (hv0.out.below hB) (fun W _ x _=>zlT x W)
 generalize idxOf (fun v=>v.k != 0) l=m at *
 have hm0:0 ≤ max m 0:=by omega
 have hm1:max m 0 < (n:Int):=by omega
 have hm2:(max m 0).toNat=j:=by omega
 rw [← hm2] at c0 c1 c2
 have d0:=za hB c0
 have d1:=za hB c1
 have d2:=za hB c2
 clear c0 c1 c2 hm hm2 hjn
 unfold GV.val
 go_wp2_with fail
 refine hx.mono ?_
 rintro e w3 ⟨rfl,hb3⟩
 have p0:=za hb3 q0
 have p1:=za hb3 q1
 have p2:=za hb3 q2
 have f0:=za hb3 d0
 have f1:=za hb3 d1
 have f2:=za hb3 d2
 have hz3:w.heap.size < w3.heap.size:=zd p0
 have z3:∀ o,w3.frozen? ⟨w.heap.size,o,none⟩=false:=fun o=>by rw [(zK hb3).2 _ _ (zd q0)];exact z2 o
 have hB3:=later hB hb3
 clear q0 q1 q2 d0 d1 d2 z2 hz hB hx hb3
 go_wp2
 refine bodyPost_ret (zl rfl rfl (by first | with_reducible exact zj p0 p1 p2 | with_reducible exact zb (zj p0 p1 p2) | with_reducible exact zb (zb (zj p0 p1 p2))) (Tryz.isAgg26 _) (Tryz.sizeOf26 _)) rfl ?_
 exact zx.mk rfl (by go_grown)
theorem zaM (name:ByteArray) (v:Value) (l:List GV) (w:World) (hv:VS w v l) (lo hi:Int) (is:Bool) (har:∀ W,Calls Tryz.prog 124 #[.string name] W (zx (.tuple #[.int .i64 lo,.int .i64 hi,.bool true]) W))
  (hck:∀ W,VS W v l → Calls Tryz.prog 105 #[v] W (zx (.bool true) W)) (hl:¬ (l.length:Int) < lo) (hh:hi < 0 ∨ ¬ hi < (l.length:Int)) (e1:(name.toList == [99,111,97,108,101,115,99,101])=false) (e2:(name.toList == [110,117,108,108,105,102])=true) (x y:GV) (h0:l[0]?=some x) (h1:l[1]?=some y) (q:Bool) (hq:XW x y=q) (r:GV) (hr:r=if q then GV.none else x) :
  Calls Tryz.prog 86 #[.string name,v] w (zx (.tuple #[r.val,.int .i64 0]) w):=by
 have hv0:=Lib.hid hv
 obtain ⟨A,c,rfl,hlen,hcell⟩:=hv
 generalize hn:l.length=n at *
 have HN:=Lib.hid hn;clear hn
 obtain ⟨b,o,rfl,c0,c1,c2⟩:=hcell 0 x h0
 obtain ⟨b',o',he,g0,g1,g2⟩:=hcell 1 y h1
 simp only [Option.some.injEq,Addr.mk.injEq,and_true] at he
 obtain ⟨rfl,rfl⟩:=he
 have hn1:1 < n:=by have:=(List.getElem?_eq_some_iff.1 h1).1;rw [HN.out] at this;exact this
 have hn0:0 < n:=by omega
 rw [Nat.zero_mul,Nat.add_zero] at c0 c1 c2
 rw [Nat.one_mul] at g0 g1 g2
 have hs:=fun W=>VO x y W
 rw [hq] at hs
 clear hcell h0 h1 hq
 have HR:=Lib.hid hr;clear hr
 go_enter Tryz.func86,Tryz.ntmps86
 go_wp2_with fail
 refine (har _).mono ?_
 rintro e w1 ⟨rfl,hb1⟩
 have r0:=za hb1 (a:=⟨w.heap.size,0,none⟩) (v:=.int .i64 0) (by simp [go_sem])
 have r1:=za hb1 (a:=⟨w.heap.size,1,none⟩) (v:=.int .i64 0) (by simp [go_sem])
 have r2:=za hb1 (a:=⟨w.heap.size,2,none⟩) (v:=.string ⟨#[]⟩) (by simp [go_sem])
 have z1:∀ o,w1.frozen? ⟨w.heap.size,o,none⟩=false:=fun o=>by rw [(zK hb1).2 _ _ (by simp)];simp [go_sem]
 have hB1:=later (w:=w) (by go_grown) hb1
 clear hb1
 go_wp2_with fail
 refine (hck _ (hv0.out.below hB1)).mono ?_
 rintro e w2 ⟨rfl,hb2⟩
 have q0:=za hb2 r0
 have q1:=za hb2 r1
 have q2:=za hb2 r2
 have hz:w.heap.size < w2.heap.size:=zd q0
 have z2:∀ o,w2.frozen? ⟨w.heap.size,o,none⟩=false:=fun o=>by rw [(zK hb2).2 _ _ (zd r0)];exact z1 o
 have hB:=later hB1 hb2
 clear r0 r1 r2 z1 hB1 hb2 hck har
 have d0:=za hB c0
 have d1:=za hB c1
 have d2:=za hB c2
 have e0:=za hB g0
 have e1':=za hB g1
 have e2':=za hB g2
 have hzb:b < w2.heap.size:=zd d0
 have hi0:(0:Int) < (n:Int):=by omega
 have hi1:(1:Int) < (n:Int):=by omega
 clear c0 c1 c2 g0 g1 g2
 unfold GV.val at hs
 rcases hh with hh | hh
 all_goals
  go_wp2_with fail
  refine Kb (by kernel_rfl) (by kernel_rfl) ?_
  repeat (go_big_quiet_step (exact Calls.kQ (hs _) (fun _ _ h=>h)))
  refine wpQuiet_nil ?_
  rintro w3 ⟨u,rfl⟩
  have hb3:=qO _ u
  generalize kG _ u=w3 at *
  have p0:=za hb3 q0
  have p1:=za hb3 q1
  have p2:=za hb3 q2
  have f0:=za hb3 d0
  have f1:=za hb3 d1
  have f2:=za hb3 d2
  have hz3:w.heap.size < w3.heap.size:=zd p0
  have z3:∀ o,w3.frozen? ⟨w.heap.size,o,none⟩=false:=fun o=>by rw [(zK hb3).2 _ _ (zd q0)];exact z2 o
  have hB3:=later hB hb3
  clear q0 q1 q2 d0 d1 d2 e0 e1' e2' z2 hz hB hs hb3 hzb
  cases q
  all_goals
   go_wp2
   refine bodyPost_ret (zl rfl rfl (by first | with_reducible exact zj p0 p1 p2) (Tryz.isAgg26 _) (Tryz.sizeOf26 _)) rfl ?_
   exact zx.mk (by rw [HR.out];rfl) (by go_grown)
end Go.Proofs.YtifdakibkadfiaaGreatDoor
end
