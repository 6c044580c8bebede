import Derived.Test.YtifdakibkadfiaaGreatDoorMg2
import Derived.Test.YtifdakibkadfiaaGreatDoorMg1
import Derived.Laws.EntriesVeiled
set_option linter.all false
set_option maxRecDepth 100000
set_option maxHeartbeats 8000000
section
namespace Go.Proofs.YtifdakibkadfiaaGreatDoor
open Go.RowKit Go.Shelf Go
def names:List (List UInt8):=[[97,98,115],[115,105,103,110],[108,101,110,103,116,104],[108,111,119,101,114],[117,112,112,101,114],[116,114,105,109],[115,117,98,115,116,114],[105,110,115,116,114],[114,101,112,108,97,99,101]]
def kindsOf:List (List Int):=[[4],[4],[24],[8],[8],[8],[24,4,4],[8,8],[8,8,8]]
def kindsAt:List Nat:=[0,1,2,3,7,11,13,14,15]
def doOf (n:Nat):List Value:=
 [.func (.func 193) #[] #[],.func (.func 194) #[] #[],.func (.func 195) #[] #[],
  .func (.func 217) #[] #[.pointer (some ⟨n + 6,0,none⟩)],.func (.func 217) #[] #[.pointer (some ⟨n + 10,0,none⟩)],.func (.func 217) #[] #[.pointer (some ⟨n + 12,0,none⟩)],
  .func (.func 200) #[] #[],.func (.func 201) #[] #[],.func (.func 202) #[] #[]]
def nameB (i:Nat):ByteArray:=⟨(names.getD i []).toArray⟩
def kindsV (n i:Nat):Value:=.slice (some ⟨n + kindsAt.getD i 0,0,none⟩) (kindsOf.getD i []).length (kindsOf.getD i []).length
def doV (n i:Nat):Value:=(doOf n).getD i .nilFunc
structure FnTable (W:World) (n:Nat):Prop where
 cells:∀ i,i < 9 → W.cell? ⟨n + 16,i * 3,none⟩=some (.string (nameB i)) ∧ W.cell? ⟨n + 16,i * 3 + 1,none⟩=some (kindsV n i) ∧ W.cell? ⟨n + 16,i * 3 + 2,none⟩=some (doV n i)
 kinds:∀ i,i < 9 → ∀ j k,(kindsOf.getD i [])[j]?=some k → W.cell? ⟨n + kindsAt.getD i 0,j,none⟩=some (.int .i64 k)
 lower:W.cell? ⟨n + 6,0,none⟩=some (.func (.func 219) #[] #[.pointer (some ⟨n + 4,0,none⟩),.pointer (some ⟨n + 5,0,none⟩)]) ∧ W.cell? ⟨n + 4,0,none⟩=some (.int .u8 65) ∧ W.cell? ⟨n + 5,0,none⟩=some (.int .u8 97)
 upper:W.cell? ⟨n + 10,0,none⟩=some (.func (.func 219) #[] #[.pointer (some ⟨n + 8,0,none⟩),.pointer (some ⟨n + 9,0,none⟩)]) ∧ W.cell? ⟨n + 8,0,none⟩=some (.int .u8 97) ∧ W.cell? ⟨n + 9,0,none⟩=some (.int .u8 65)
 trim:W.cell? ⟨n + 12,0,none⟩=some (.func (.func 198) #[] #[])
theorem FnTable.below {W w1:World} {n:Nat} (h:FnTable W n) (hb:Below W.heap.size W w1):FnTable w1 n where
 cells i hi:=⟨cell_below hb (h.cells i hi).1,cell_below hb (h.cells i hi).2.1,cell_below hb (h.cells i hi).2.2⟩
 kinds i hi j k hk:=cell_below hb (h.kinds i hi j k hk)
 lower:=⟨cell_below hb h.lower.1,cell_below hb h.lower.2.1,cell_below hb h.lower.2.2⟩
 upper:=⟨cell_below hb h.upper.1,cell_below hb h.upper.2.1,cell_below hb h.upper.2.2⟩
 trim:=cell_below hb h.trim
def allocs (w:World) (l:List Obj):World:=l.foldl World.alloc w
theorem allocs_below (l:List Obj):∀ w:World,Below w.heap.size w (allocs w l):=by
 induction l with
 | nil=>intro w;exact Below.refl _ _
 | cons o l ih=>intro w;exact later ((Below.refl _ _).alloc (Nat.le_refl _) o) (ih _)
theorem allocs_get (l:List Obj):∀ (w:World) (i:Nat) (o:Obj),l[i]?=some o → (allocs w l).heap[w.heap.size + i]?=some o:=by
 induction l with
 | nil=>intro w i o h;simp at h
 | cons x l ih =>
  intro w i o h
  cases i with
  | zero =>
   simp at h;subst h
   have hb:=allocs_below l (w.alloc x)
   show (allocs (w.alloc x) l).heap[w.heap.size]?=_
   rw [hb.block _ (by simp)]
   exact heap_alloc_new w x
  | succ i =>
   have:=ih (w.alloc x) i o (by simpa using h)
   show (allocs (w.alloc x) l).heap[w.heap.size + (i + 1)]?=_
   rw [show w.heap.size + (i + 1)=(w.alloc x).heap.size + i from by simp;omega]
   exact this
theorem allocs_cell {l:List Obj} {w:World} {i t:Nat} {c:Array Value} {j:Nat} {v:Value} (h:l[i]?=some (.cells c t)) (hv:c[j]?=some v):(allocs w l).cell? ⟨w.heap.size + i,j,none⟩=some v:=by
 have:=allocs_get l w i _ h
 simp only [World.cell?,this,Option.isSome_none,Bool.false_eq_true,if_false]
 exact hv
def intObj (l:List Int):Obj:=.cells (l.map fun n=>Value.int .i64 n).toArray 3
def tableRow (n i:Nat):List Value:=[.string (nameB i),kindsV n i,doV n i]
def tableObjs (n:Nat):List Obj:=
 [intObj [4],intObj [4],intObj [24],intObj [8],.cells #[.int .u8 65] 5,.cells #[.int .u8 97] 5,.cells #[.func (.func 219) #[] #[.pointer (some ⟨n + 4,0,none⟩),.pointer (some ⟨n + 5,0,none⟩)]] 217,
  intObj [8],.cells #[.int .u8 97] 5,.cells #[.int .u8 65] 5,.cells #[.func (.func 219) #[] #[.pointer (some ⟨n + 8,0,none⟩),.pointer (some ⟨n + 9,0,none⟩)]] 217,
  intObj [8],.cells #[.func (.func 198) #[] #[]] 217,intObj [24,4,4],intObj [8,8],intObj [8,8,8],
  .cells (tableRow n 0 ++ tableRow n 1 ++ tableRow n 2 ++ tableRow n 3 ++ tableRow n 4 ++ tableRow n 5 ++ tableRow n 6 ++ tableRow n 7 ++ tableRow n 8).toArray 175]
theorem kinds_cell (n d:Nat) (w:World) (ks:List Int) (h:(tableObjs n)[d]?=some (intObj ks)) (j:Nat) (k:Int) (hk:ks[j]?=some k):(allocs w (tableObjs n)).cell? ⟨w.heap.size + d,j,none⟩=some (.int .i64 k):=
 allocs_cell (c:=(ks.map fun n=>Value.int .i64 n).toArray) (t:=3) h (by simp [hk])
theorem table_ok (w:World):FnTable (allocs w (tableObjs w.heap.size)) w.heap.size where
 cells i hi:=by
  have h:∀ j v,(tableRow w.heap.size 0 ++ tableRow w.heap.size 1 ++ tableRow w.heap.size 2 ++ tableRow w.heap.size 3 ++ tableRow w.heap.size 4 ++ tableRow w.heap.size 5 ++ tableRow w.heap.size 6 ++ tableRow w.heap.size 7 ++ tableRow w.heap.size 8).toArray[j]?=some v →
    (allocs w (tableObjs w.heap.size)).cell? ⟨w.heap.size + 16,j,none⟩=some v:=fun j v hj=>allocs_cell (i:=16) rfl hj
  have hc:i=0 ∨ i=1 ∨ i=2 ∨ i=3 ∨ i=4 ∨ i=5 ∨ i=6 ∨ i=7 ∨ i=8:=by omega
  rcases hc with rfl | rfl | rfl | rfl | rfl | rfl | rfl | rfl | rfl <;> exact ⟨h _ _ rfl,h _ _ rfl,h _ _ rfl⟩
 kinds i hi j k hk:=by
  have hc:i=0 ∨ i=1 ∨ i=2 ∨ i=3 ∨ i=4 ∨ i=5 ∨ i=6 ∨ i=7 ∨ i=8:=by omega
  rcases hc with rfl | rfl | rfl | rfl | rfl | rfl | rfl | rfl | rfl <;> exact kinds_cell _ _ w _ rfl j k hk
 lower:=⟨allocs_cell (i:=6) rfl rfl,allocs_cell (i:=4) rfl rfl,allocs_cell (i:=5) rfl rfl⟩
 upper:=⟨allocs_cell (i:=10) rfl rfl,allocs_cell (i:=8) rfl rfl,allocs_cell (i:=9) rfl rfl⟩
 trim:=allocs_cell (i:=12) rfl rfl
theorem scalar_functions (w:World) :
  Calls Tryz.prog 174 #[] w fun e w'=>e = .returned (.slice (some ⟨w.heap.size + 16,0,none⟩) 9 9) ∧ w'=allocs w (tableObjs w.heap.size):=by
 go_enter Tryz.func174,Tryz.ntmps174
 go_wp2
 go_returns
 exact ⟨rfl,rfl⟩
theorem find_1 (nm name:ByteArray) (ks d:Value) (B:Nat) (w:World) (hn:w.cell? ⟨B,0,none⟩=some (.string name)) (hB:B < w.heap.size) :
  Calls Tryz.prog 176 #[.agg #[.string nm,ks,d],.pointer (some ⟨B,0,none⟩)] w (Rets (.bool (nm.toList == name.toList)) w):=by
 go_enter Tryz.func176,Tryz.ntmps176
 go_wp2
 go_returns
 exact Rets.bool rfl (by go_grown)
end Go.Proofs.YtifdakibkadfiaaGreatDoor
end
section
namespace Go.Proofs.YtifdakibkadfiaaGreatDoor
open Go.RowKit Go.Shelf Go
def posOf (name:List UInt8):Int:=match names.findIdx? (· == name) with | some i=>i | none=>-1
theorem names_len:names.length=9:=rfl
theorem posOf_hit {name:List UInt8} {k:Nat} (hk:k < 9) (h:(names.getD k [] == name)=true) (hn:∀ j,j < k → (names.getD j [] == name)=false):posOf name=k:=by
 unfold posOf
 have:names.findIdx? (· == name)=some k:=by
  rw [List.findIdx?_eq_some_iff_getElem]
  have hl:k < names.length:=by rw [names_len];exact hk
  refine ⟨hl,?_,fun j hj=>?_⟩
  ·rw [List.getD_eq_getElem?_getD,List.getElem?_eq_getElem hl] at h;exact h
  ·have:=hn j hj
   rw [List.getD_eq_getElem?_getD,List.getElem?_eq_getElem (by omega)] at this
   simp only [Option.getD_some] at this
   rw [this];exact Bool.false_ne_true
 rw [this]
theorem posOf_none {name:List UInt8} (hn:∀ j,j < 9 → (names.getD j [] == name)=false):posOf name = -1:=by
 unfold posOf
 have:names.findIdx? (· == name)=none:=by
  rw [List.findIdx?_eq_none_iff]
  intro x hx
  obtain ⟨j,hj,he⟩:=List.getElem_of_mem hx
  have:=hn j (by rw [names_len] at hj;exact hj)
  rw [List.getD_eq_getElem?_getD,List.getElem?_eq_getElem hj] at this
  rw [← he];exact this
 rw [this]
theorem posOf_lt (name:List UInt8):posOf name < 9 ∧ -1 ≤ posOf name:=by
 unfold posOf
 cases h:names.findIdx? (· == name) with
 | none=>exact ⟨by decide,by decide⟩
 | some i =>
  rw [List.findIdx?_eq_some_iff_getElem] at h
  obtain ⟨hl,_⟩:=h
  rw [names_len] at hl
  exact ⟨by simp only [];omega,by simp only [];omega⟩
theorem nameB_toList (i:Nat):(nameB i).toList=names.getD i []:=by
 unfold nameB;rw [Go.ByteArray.toList_eq]
theorem index_table (n B:Nat) (name:ByteArray) (w:World) (ht:FnTable w n) (hn:w.cell? ⟨B,0,none⟩=some (.string name)) :
  Calls Tryz.prog 175 #[.slice (some ⟨n + 16,0,none⟩) 9 9,.func (.func 176) #[] #[.pointer (some ⟨B,0,none⟩)]] w (Rets (.int .i64 (posOf name.toList)) w):=by
 have hB:B < w.heap.size:=lt_of_cell hn
 have hcall:=fun (W:World) (hb:Below w.heap.size w W) nm ks d=>find_1 nm name ks d B W (cell_below hb hn) (Nat.lt_of_lt_of_le hB hb.size)
 have hrow:=fun (W:World) (hb:Below w.heap.size w W) k hk=>(ht.below hb).cells k hk
 clear ht hn
 go_enter Tryz.func175,Tryz.ntmps175
 go_wp2
 go_loopw [5,8] (fun _ s8 wr=>∃ k:Nat,k ≤ 9 ∧ s8 = .int .i64 k ∧ Below w.heap.size w wr ∧ Hid (∀ j,j < k → (names.getD j [] == name.toList)=false)) (fun _ s8 _=>9 - (intOf s8).toNat)
 case atStart=>exact ⟨0,Nat.zero_le _,rfl,Below.refl _ _,fun j hj=>absurd hj (Nat.not_lt_zero _)⟩
 case round =>
  obtain ⟨k,hk,rfl,hb,hn⟩:=hrel
  by_cases hlt:k < 9
  ·obtain ⟨d0,d1,d2⟩:=hrow wr hb k hlt
   have hc:=hcall wr hb (nameB k) (kindsV n k) (doV n k)
   clear hrow hcall
   rw [nameB_toList] at hc
   generalize nameB k=nm at *
   generalize kindsV n k=kv at *
   generalize doV n k=dv at *
   cases hq:(names.getD k [] == name.toList) with
   | true =>
    rw [hq] at hc
    have HQ:=Lib.hid hq
    clear hq
    go_wp2_with (go_at_call 176;refine hc.mono ?_;rintro e w' ⟨rfl,hb'⟩)
    go_returns
    exact Rets.int (posOf_hit hlt HQ.out hn.out).symm (hb.trans (hb'.mono hb.size))
   | false =>
    rw [hq] at hc
    have HQ:=Lib.hid hq
    clear hq
    go_wp2_with (go_at_call 176;refine hc.mono ?_;rintro e w' ⟨rfl,hb'⟩)
    go_roundw
    case rel =>
     refine ⟨k + 1,by omega,by go_num,hb.trans (hb'.mono hb.size),fun j hj=>?_⟩
     rcases Nat.lt_succ_iff_lt_or_eq.1 hj with h | rfl
     ·exact hn.out j h
     ·exact HQ.out
    case measure=>simp [intOf];omega
  ·have:k=9:=by omega
   have hn':Hid (∀ j,j < 9 → (names.getD j [] == name.toList)=false):=by subst this;exact hn
   clear hrow hcall hn this
   go_wp2
   go_returns
   exact Rets.int (posOf_none hn'.out).symm hb
theorem cell_set_other {w:World} {p a:Addr} {u v:Value} (h:w.cell? a=some v) (hne:a.block ≠ p.block):(w.setCell p u).cell? a=some v:=by
 rw [World.cell?_of_block (w:=w) (heap_setCell_other w p a.block u hne)];exact h
theorem FnTable.setCell {W:World} {n:Nat} (h:FnTable W n) {p:Addr} (hp:p.block < n) (u:Value):FnTable (W.setCell p u) n where
 cells i hi:=⟨cell_set_other (h.cells i hi).1 (by simp only [];omega),cell_set_other (h.cells i hi).2.1 (by simp only [];omega),cell_set_other (h.cells i hi).2.2 (by simp only [];omega)⟩
 kinds i hi j k hk:=cell_set_other (h.kinds i hi j k hk) (by simp only [];omega)
 lower:=⟨cell_set_other h.lower.1 (by simp only [];omega),cell_set_other h.lower.2.1 (by simp only [];omega),cell_set_other h.lower.2.2 (by simp only [];omega)⟩
 upper:=⟨cell_set_other h.upper.1 (by simp only [];omega),cell_set_other h.upper.2.1 (by simp only [];omega),cell_set_other h.upper.2.2 (by simp only [];omega)⟩
 trim:=cell_set_other h.trim (by simp only [];omega)
theorem doV_func (n i:Nat) (hi:i < 9):∃ g cap,doV n i = .func (.func g) #[] cap:=by
 have hc:i=0 ∨ i=1 ∨ i=2 ∨ i=3 ∨ i=4 ∨ i=5 ∨ i=6 ∨ i=7 ∨ i=8:=by omega
 rcases hc with rfl | rfl | rfl | rfl | rfl | rfl | rfl | rfl | rfl <;> exact ⟨_,_,rfl⟩
def FindPost (name:List UInt8) (w:World) (e:Ending) (w':World):Prop:=
 Below w.heap.size w w' ∧
 ((posOf name = -1 ∧ e = .returned (.tuple #[.agg #[.string ⟨#[]⟩,.slice none 0 0,.nilFunc],.bool false])) ∨
  ∃ i n:Nat,i < 9 ∧ posOf name=i ∧ w.heap.size ≤ n ∧ FnTable w' n ∧ e = .returned (.tuple #[.agg #[.string (nameB i),kindsV n i,doV n i],.bool true]))
theorem scalar_find (name:ByteArray) (w:World) :
  Calls Tryz.prog 128 #[.string name] w (FindPost name.toList w):=by
 have hf:=fun W=>scalar_functions W
 go_enter Tryz.func128,Tryz.ntmps128
 go_wp2_with fail
 refine (hf _).mono ?_
 rintro e w1 ⟨rfl,hw⟩
 have hb1:=allocs_below (tableObjs ((w.alloc (.cells #[.string name] 9)).alloc (.cells #[.string ⟨#[]⟩,.slice none 0 0,.nilFunc] 175)).heap.size) ((w.alloc (.cells #[.string name] 9)).alloc (.cells #[.string ⟨#[]⟩,.slice none 0 0,.nilFunc] 175))
 have ht:=table_ok ((w.alloc (.cells #[.string name] 9)).alloc (.cells #[.string ⟨#[]⟩,.slice none 0 0,.nilFunc] 175))
 rw [← hw] at hb1 ht
 clear hw
 have nb:=cell_below hb1 (a:=⟨w.heap.size,0,none⟩) (v:=.string name) (by simp [go_sem])
 have r0:=cell_below hb1 (a:=⟨w.heap.size + 1,0,none⟩) (v:=.string ⟨#[]⟩) (by simp [go_sem])
 have r1:=cell_below hb1 (a:=⟨w.heap.size + 1,1,none⟩) (v:=.slice none 0 0) (by simp [go_sem])
 have r2:=cell_below hb1 (a:=⟨w.heap.size + 1,2,none⟩) (v:=.nilFunc) (by simp [go_sem])
 have hB:=later (w:=w) (by go_grown) hb1
 have fz0:∀ o,w1.frozen? ⟨w.heap.size + 1,o,none⟩=false:=fun o=>by rw [(bcell hb1).2 _ _ (by simp)];simp [go_sem]
 have hix:=index_table _ _ name w1 ht nb
 have hsz:((w.alloc (.cells #[.string name] 9)).alloc (.cells #[.string ⟨#[]⟩,.slice none 0 0,.nilFunc] 175)).heap.size=w.heap.size + 1 + 1:=by simp
 rw [hsz] at hix ht
 clear hb1 hf hsz
 go_wp2_with fail
 refine hix.mono ?_
 rintro e w2 ⟨rfl,hb2⟩
 have q0:=cell_below hb2 r0
 have q1:=cell_below hb2 r1
 have q2:=cell_below hb2 r2
 have hz:w.heap.size + 1 < w2.heap.size:=lt_of_cell q0
 have fz:∀ o,w2.frozen? ⟨w.heap.size + 1,o,none⟩=false:=fun o=>by rw [(bcell hb2).2 _ _ (lt_of_cell r0)];exact fz0 o
 have hB2:=later hB hb2
 have ht2:=ht.below hb2
 have hp:=posOf_lt name.toList
 clear ht hix hb2 r0 r1 r2 nb hB fz0
 generalize hpos:posOf name.toList=pos at *
 have HP:=Lib.hid hpos;clear hpos
 by_cases h0:pos < 0
 ·have h1:pos = -1:=by omega
  subst h1
  clear hp h0 ht2
  go_wp2
  refine bodyPost_ret (ret_cells3 rfl rfl (by first | with_reducible exact stored3 q0 q1 q2) (Tryz.isAgg175 _) (Tryz.sizeOf175 _)) rfl ?_
  exact ⟨by go_grown,.inl ⟨HP.out,rfl⟩⟩
 ·obtain ⟨i,rfl⟩:∃ i:Nat,pos=i:=⟨pos.toNat,by omega⟩
  have hi:i < 9:=by omega
  obtain ⟨c0,c1,c2⟩:=ht2.cells i hi
  have HT:=Lib.hid ht2
  clear hp h0 ht2
  obtain ⟨g,cap,hdv⟩:=doV_func (w.heap.size + 1 + 1) i hi
  rw [hdv] at c2
  have HK:kindsV (w.heap.size + 1 + 1) i = .slice (some ⟨w.heap.size + 1 + 1 + kindsAt.getD i 0,0,none⟩) (kindsOf.getD i []).length (kindsOf.getD i []).length:=rfl
  rw [HK] at c1
  have HD:=Lib.hid hdv
  clear hdv HK
  generalize hnm:nameB i=nm at *
  generalize hkb:w.heap.size + 1 + 1 + kindsAt.getD i 0=kb at *
  generalize hkl:(kindsOf.getD i []).length=kl at *
  have HN:=Lib.hid hnm;have HKB:=Lib.hid hkb;have HKL:=Lib.hid hkl
  clear hnm hkb hkl
  go_wp2
  refine bodyPost_ret (ret_cells3 rfl rfl (by first | with_reducible exact stored3 q0 q1 q2) (Tryz.isAgg175 _) (Tryz.sizeOf175 _)) rfl ?_
  refine ⟨by go_grown,.inr ⟨i,w.heap.size + 1 + 1,hi,HP.out,by omega,?_,?_⟩⟩
  ·exact ((HT.out.setCell (by simp only [];omega) _).setCell (by simp only [];omega) _).setCell (by simp only [];omega) _
  ·rw [HD.out,HN.out];unfold kindsV;rw [HKB.out,HKL.out];rfl
end Go.Proofs.YtifdakibkadfiaaGreatDoor
end
section
namespace Go.Proofs.YtifdakibkadfiaaGreatDoor
open Go.RowKit Go.Shelf Go
def sCoalesce:List UInt8:=[99,111,97,108,101,115,99,101]
def sNullif:List UInt8:=[110,117,108,108,105,102]
def arityS (name:List UInt8):Int × Int × Bool:=
 if name=sCoalesce then (1,-1,true)
 else if name=sNullif then (2,2,true)
 else if posOf name < 0 then (0,0,false)
 else (((kindsOf.getD (posOf name).toNat []).length:Nat),((kindsOf.getD (posOf name).toNat []).length:Nat),true)
def ArityPost (p:Int × Int × Bool) (w:World) (e:Ending) (w':World):Prop:=Rets (.tuple #[.int .i64 p.1,.int .i64 p.2.1,.bool p.2.2]) w e w'
theorem ArityPost.mk {a b:Int} {c:Bool} {p:Int × Int × Bool} {w w':World} (h:p=(a,b,c)) (hb:Below w.heap.size w w'):ArityPost p w (.returned (.tuple #[.int .i64 a,.int .i64 b,.bool c])) w':=⟨by rw [h],hb⟩
theorem scalar_Arity (name:ByteArray) (w:World) :
  Calls Tryz.prog 124 #[.string name] w (ArityPost (arityS name.toList) w):=by
 generalize hp:arityS name.toList=p
 have HP:=Lib.hid hp;clear hp
 by_cases h1:name.toList=sCoalesce
 ·have e1:(name.toList == [99,111,97,108,101,115,99,101])=true:=by rw [h1];rfl
  go_enter Tryz.func124,Tryz.ntmps124
  have H1:=Lib.hid h1;clear h1
  go_wp2
  go_returns
  exact ArityPost.mk (by rw [← HP.out];unfold arityS;rw [if_pos H1.out]) (Below.refl _ _)
 ·have e1:(name.toList == [99,111,97,108,101,115,99,101])=false:=beq_eq_false_iff_ne.2 h1
  by_cases h2:name.toList=sNullif
  ·have e2:(name.toList == [110,117,108,108,105,102])=true:=by rw [h2];rfl
   have H1:=Lib.hid h1;clear h1
   have H2:=Lib.hid h2;clear h2
   go_enter Tryz.func124,Tryz.ntmps124
   go_wp2
   go_returns
   exact ArityPost.mk (by rw [← HP.out];unfold arityS;rw [if_neg H1.out,if_pos H2.out]) (Below.refl _ _)
  ·have e2:(name.toList == [110,117,108,108,105,102])=false:=beq_eq_false_iff_ne.2 h2
   have H1:=Lib.hid h1;clear h1
   have H2:=Lib.hid h2;clear h2
   have hf:=scalar_find name w
   go_enter Tryz.func124,Tryz.ntmps124
   go_wp2_with fail
   refine hf.mono ?_
   rintro e w1 ⟨hb1,⟨hpos,rfl⟩ | ⟨i,n,hi,hpos,hn,ht,rfl⟩⟩
   ·have HPO:=Lib.hid hpos;clear hpos hf
    go_wp2
    go_quiet (fail)
    go_wp2
    go_returns
    exact ArityPost.mk (by rw [← HP.out];unfold arityS;rw [if_neg H1.out,if_neg H2.out,HPO.out];rfl) (belowN (hb1.alloc hb1.size _) _)
   ·have HPO:=Lib.hid hpos;clear hpos hf ht
    unfold kindsV
    generalize hkl:(kindsOf.getD i []).length=kl at *
    have HK:=Lib.hid hkl;clear hkl
    obtain ⟨g,cap,hd⟩:=doV_func n i hi
    rw [hd]
    clear hd
    go_wp2
    go_quiet (fail)
    go_wp2
    go_returns
    exact ArityPost.mk (by rw [← HP.out];unfold arityS;rw [if_neg H1.out,if_neg H2.out,HPO.out,if_neg (by omega)];simp only [Int.toNat_natCast,HK.out]) (belowN (hb1.alloc hb1.size _) _)
end Go.Proofs.YtifdakibkadfiaaGreatDoor
end
section
namespace Go.Proofs.YtifdakibkadfiaaGreatDoor
open Go.RowKit Go.Shelf Go
def sameB (a b:GV):Bool:=a.k == b.k && a.i == b.i && a.s.toList == b.s.toList
theorem bytes_eq {a b:ByteArray} (h:a.toList=b.toList):a=b:=by
 rw [Go.ByteArray.toList_eq,Go.ByteArray.toList_eq] at h
 obtain ⟨⟨x⟩⟩:=a;obtain ⟨⟨y⟩⟩:=b
 simp only at h;rw [h]
theorem value_Same (a b:GV) (w:World) :
  Calls Tryz.prog 127 #[a.val,b.val] w (Rets (.bool (sameB a b)) w):=by
 unfold GV.val
 generalize hp:sameB a b=p
 have HP:=Lib.hid hp;clear hp
 go_enter Tryz.func127,Tryz.ntmps127
 go_wp2
 all_goals go_returns
 all_goals refine Rets.bool ?_ (by go_grown)
 all_goals go_light
 all_goals (rw [← HP.out];clear HP;unfold sameB;simp_all)
end Go.Proofs.YtifdakibkadfiaaGreatDoor
end
section
namespace Go.Proofs.YtifdakibkadfiaaGreatDoor
open Go.RowKit Go.Shelf Go
abbrev CallF:Nat:=86
theorem Call_bad1 (name:ByteArray) (v:Value) (l:List GV) (w:World) (hv:VS w v l) (lo hi:Int) (is:Bool) (har:∀ W,Calls Tryz.prog 124 #[.string name] W (Rets (.tuple #[.int .i64 lo,.int .i64 hi,.bool is]) W))
  (hck:∀ W,VS W v l → Calls Tryz.prog 105 #[v] W (Rets (.bool false) W))  :
  Calls Tryz.prog 86 #[.string name,v] w (Rets (.tuple #[GV.none.val,.int .i64 1]) w):=by
 have hv0:=Lib.hid hv
 obtain ⟨A,c,rfl,hlen,hcell⟩:=hv
 generalize hn:l.length=n at *
 have HN:=Lib.hid hn;clear hn
 go_enter Tryz.func86,Tryz.ntmps86
 go_wp2_with fail
 refine (har _).mono ?_
 rintro e w1 ⟨rfl,hb1⟩
 have r0:=cell_below hb1 (a:=⟨w.heap.size,0,none⟩) (v:=.int .i64 0) (by simp [go_sem])
 have r1:=cell_below hb1 (a:=⟨w.heap.size,1,none⟩) (v:=.int .i64 0) (by simp [go_sem])
 have r2:=cell_below hb1 (a:=⟨w.heap.size,2,none⟩) (v:=.string ⟨#[]⟩) (by simp [go_sem])
 have z1:∀ o,w1.frozen? ⟨w.heap.size,o,none⟩=false:=fun o=>by rw [(bcell hb1).2 _ _ (by simp)];simp [go_sem]
 have hB1:=later (w:=w) (by go_grown) hb1
 clear hb1
 go_wp2_with fail
 refine (hck _ (hv0.out.below hB1)).mono ?_
 rintro e w2 ⟨rfl,hb2⟩
 have q0:=cell_below hb2 r0
 have q1:=cell_below hb2 r1
 have q2:=cell_below hb2 r2
 have hz:w.heap.size < w2.heap.size:=lt_of_cell q0
 have z2:∀ o,w2.frozen? ⟨w.heap.size,o,none⟩=false:=fun o=>by rw [(bcell hb2).2 _ _ (lt_of_cell r0)];exact z1 o
 have hB:=later hB1 hb2
 clear r0 r1 r2 z1 hB1 hb2 hck har
 clear hcell hlen
 go_wp2
 refine bodyPost_ret (ret_cells3 rfl rfl (by first | with_reducible exact stored3 q0 q1 q2 | with_reducible exact cells3_alloc (stored3 q0 q1 q2) | with_reducible exact cells3_alloc (cells3_alloc (stored3 q0 q1 q2))) (Tryz.isAgg26 _) (Tryz.sizeOf26 _)) rfl ?_
 exact Rets.mk rfl (by go_grown)
theorem Call_bad2 (name:ByteArray) (v:Value) (l:List GV) (w:World) (hv:VS w v l) (lo hi:Int) (is:Bool) (har:∀ W,Calls Tryz.prog 124 #[.string name] W (Rets (.tuple #[.int .i64 lo,.int .i64 hi,.bool false]) W))
  (hck:∀ W,VS W v l → Calls Tryz.prog 105 #[v] W (Rets (.bool true) W)) (_:is=false) :
  Calls Tryz.prog 86 #[.string name,v] w (Rets (.tuple #[GV.none.val,.int .i64 1]) w):=by
 have hv0:=Lib.hid hv
 obtain ⟨A,c,rfl,hlen,hcell⟩:=hv
 generalize hn:l.length=n at *
 have HN:=Lib.hid hn;clear hn
 go_enter Tryz.func86,Tryz.ntmps86
 go_wp2_with fail
 refine (har _).mono ?_
 rintro e w1 ⟨rfl,hb1⟩
 have r0:=cell_below hb1 (a:=⟨w.heap.size,0,none⟩) (v:=.int .i64 0) (by simp [go_sem])
 have r1:=cell_below hb1 (a:=⟨w.heap.size,1,none⟩) (v:=.int .i64 0) (by simp [go_sem])
 have r2:=cell_below hb1 (a:=⟨w.heap.size,2,none⟩) (v:=.string ⟨#[]⟩) (by simp [go_sem])
 have z1:∀ o,w1.frozen? ⟨w.heap.size,o,none⟩=false:=fun o=>by rw [(bcell hb1).2 _ _ (by simp)];simp [go_sem]
 have hB1:=later (w:=w) (by go_grown) hb1
 clear hb1
 go_wp2_with fail
 refine (hck _ (hv0.out.below hB1)).mono ?_
 rintro e w2 ⟨rfl,hb2⟩
 have q0:=cell_below hb2 r0
 have q1:=cell_below hb2 r1
 have q2:=cell_below hb2 r2
 have hz:w.heap.size < w2.heap.size:=lt_of_cell q0
 have z2:∀ o,w2.frozen? ⟨w.heap.size,o,none⟩=false:=fun o=>by rw [(bcell hb2).2 _ _ (lt_of_cell r0)];exact z1 o
 have hB:=later hB1 hb2
 clear r0 r1 r2 z1 hB1 hb2 hck har
 clear hcell hlen
 go_wp2
 refine bodyPost_ret (ret_cells3 rfl rfl (by first | with_reducible exact stored3 q0 q1 q2 | with_reducible exact cells3_alloc (stored3 q0 q1 q2) | with_reducible exact cells3_alloc (cells3_alloc (stored3 q0 q1 q2))) (Tryz.isAgg26 _) (Tryz.sizeOf26 _)) rfl ?_
 exact Rets.mk rfl (by go_grown)
theorem Call_bad3 (name:ByteArray) (v:Value) (l:List GV) (w:World) (hv:VS w v l) (lo hi:Int) (is:Bool) (har:∀ W,Calls Tryz.prog 124 #[.string name] W (Rets (.tuple #[.int .i64 lo,.int .i64 hi,.bool true]) W))
  (hck:∀ W,VS W v l → Calls Tryz.prog 105 #[v] W (Rets (.bool true) W)) (hl:(l.length:Int) < lo) :
  Calls Tryz.prog 86 #[.string name,v] w (Rets (.tuple #[GV.none.val,.int .i64 1]) w):=by
 have hv0:=Lib.hid hv
 obtain ⟨A,c,rfl,hlen,hcell⟩:=hv
 generalize hn:l.length=n at *
 have HN:=Lib.hid hn;clear hn
 go_enter Tryz.func86,Tryz.ntmps86
 go_wp2_with fail
 refine (har _).mono ?_
 rintro e w1 ⟨rfl,hb1⟩
 have r0:=cell_below hb1 (a:=⟨w.heap.size,0,none⟩) (v:=.int .i64 0) (by simp [go_sem])
 have r1:=cell_below hb1 (a:=⟨w.heap.size,1,none⟩) (v:=.int .i64 0) (by simp [go_sem])
 have r2:=cell_below hb1 (a:=⟨w.heap.size,2,none⟩) (v:=.string ⟨#[]⟩) (by simp [go_sem])
 have z1:∀ o,w1.frozen? ⟨w.heap.size,o,none⟩=false:=fun o=>by rw [(bcell hb1).2 _ _ (by simp)];simp [go_sem]
 have hB1:=later (w:=w) (by go_grown) hb1
 clear hb1
 go_wp2_with fail
 refine (hck _ (hv0.out.below hB1)).mono ?_
 rintro e w2 ⟨rfl,hb2⟩
 have q0:=cell_below hb2 r0
 have q1:=cell_below hb2 r1
 have q2:=cell_below hb2 r2
 have hz:w.heap.size < w2.heap.size:=lt_of_cell q0
 have z2:∀ o,w2.frozen? ⟨w.heap.size,o,none⟩=false:=fun o=>by rw [(bcell hb2).2 _ _ (lt_of_cell r0)];exact z1 o
 have hB:=later hB1 hb2
 clear r0 r1 r2 z1 hB1 hb2 hck har
 clear hcell hlen
 go_wp2
 refine bodyPost_ret (ret_cells3 rfl rfl (by first | with_reducible exact stored3 q0 q1 q2 | with_reducible exact cells3_alloc (stored3 q0 q1 q2) | with_reducible exact cells3_alloc (cells3_alloc (stored3 q0 q1 q2))) (Tryz.isAgg26 _) (Tryz.sizeOf26 _)) rfl ?_
 exact Rets.mk rfl (by go_grown)
theorem Call_bad4 (name:ByteArray) (v:Value) (l:List GV) (w:World) (hv:VS w v l) (lo hi:Int) (is:Bool) (har:∀ W,Calls Tryz.prog 124 #[.string name] W (Rets (.tuple #[.int .i64 lo,.int .i64 hi,.bool true]) W))
  (hck:∀ W,VS W v l → Calls Tryz.prog 105 #[v] W (Rets (.bool true) W)) (hl:¬ (l.length:Int) < lo) (hh:0 ≤ hi) (hg:hi < (l.length:Int)) :
  Calls Tryz.prog 86 #[.string name,v] w (Rets (.tuple #[GV.none.val,.int .i64 1]) w):=by
 have hv0:=Lib.hid hv
 obtain ⟨A,c,rfl,hlen,hcell⟩:=hv
 generalize hn:l.length=n at *
 have HN:=Lib.hid hn;clear hn
 go_enter Tryz.func86,Tryz.ntmps86
 go_wp2_with fail
 refine (har _).mono ?_
 rintro e w1 ⟨rfl,hb1⟩
 have r0:=cell_below hb1 (a:=⟨w.heap.size,0,none⟩) (v:=.int .i64 0) (by simp [go_sem])
 have r1:=cell_below hb1 (a:=⟨w.heap.size,1,none⟩) (v:=.int .i64 0) (by simp [go_sem])
 have r2:=cell_below hb1 (a:=⟨w.heap.size,2,none⟩) (v:=.string ⟨#[]⟩) (by simp [go_sem])
 have z1:∀ o,w1.frozen? ⟨w.heap.size,o,none⟩=false:=fun o=>by rw [(bcell hb1).2 _ _ (by simp)];simp [go_sem]
 have hB1:=later (w:=w) (by go_grown) hb1
 clear hb1
 go_wp2_with fail
 refine (hck _ (hv0.out.below hB1)).mono ?_
 rintro e w2 ⟨rfl,hb2⟩
 have q0:=cell_below hb2 r0
 have q1:=cell_below hb2 r1
 have q2:=cell_below hb2 r2
 have hz:w.heap.size < w2.heap.size:=lt_of_cell q0
 have z2:∀ o,w2.frozen? ⟨w.heap.size,o,none⟩=false:=fun o=>by rw [(bcell hb2).2 _ _ (lt_of_cell r0)];exact z1 o
 have hB:=later hB1 hb2
 clear r0 r1 r2 z1 hB1 hb2 hck har
 clear hcell hlen
 go_wp2
 refine bodyPost_ret (ret_cells3 rfl rfl (by first | with_reducible exact stored3 q0 q1 q2 | with_reducible exact cells3_alloc (stored3 q0 q1 q2) | with_reducible exact cells3_alloc (cells3_alloc (stored3 q0 q1 q2))) (Tryz.isAgg26 _) (Tryz.sizeOf26 _)) rfl ?_
 exact Rets.mk rfl (by go_grown)
theorem call_1 (v:GV) (w:World) :
  Calls Tryz.prog 126 #[v.val] w (Rets (.bool (v.k != 0)) w):=by
 unfold GV.val at *
 go_enter Tryz.func126,Tryz.ntmps126
 go_wp2
 go_returns
 exact Rets.bool rfl ((Below.refl _ _).alloc (Nat.le_refl _) _)
theorem Call_coalesce (name:ByteArray) (v:Value) (l:List GV) (w:World) (hv:VS w v l) (lo hi:Int) (is:Bool) (har:∀ W,Calls Tryz.prog 124 #[.string name] W (Rets (.tuple #[.int .i64 lo,.int .i64 hi,.bool true]) W))
  (hck:∀ W,VS W v l → Calls Tryz.prog 105 #[v] W (Rets (.bool true) W)) (hl:¬ (l.length:Int) < lo) (hh:hi < 0) (e1:(name.toList == [99,111,97,108,101,115,99,101])=true) (j:Nat) (x:GV) (hj:l[j]?=some x) (hm:max (idxOf (fun v=>v.k != 0) l) 0=j) :
  Calls Tryz.prog 86 #[.string name,v] w (Rets (.tuple #[x.val,.int .i64 0]) w):=by
 have hv0:=Lib.hid hv
 obtain ⟨A,c,rfl,hlen,hcell⟩:=hv
 generalize hn:l.length=n at *
 have HN:=Lib.hid hn;clear hn
 obtain ⟨b,o,rfl,c0,c1,c2⟩:=hcell j x hj
 have hjn:j < n:=by have:=(List.getElem?_eq_some_iff.1 hj).1;rw [HN.out] at this;exact this
 clear hcell
 have HJ:=Lib.hid hj;clear hj
 go_enter Tryz.func86,Tryz.ntmps86
 go_wp2_with fail
 refine (har _).mono ?_
 rintro e w1 ⟨rfl,hb1⟩
 have r0:=cell_below hb1 (a:=⟨w.heap.size,0,none⟩) (v:=.int .i64 0) (by simp [go_sem])
 have r1:=cell_below hb1 (a:=⟨w.heap.size,1,none⟩) (v:=.int .i64 0) (by simp [go_sem])
 have r2:=cell_below hb1 (a:=⟨w.heap.size,2,none⟩) (v:=.string ⟨#[]⟩) (by simp [go_sem])
 have z1:∀ o,w1.frozen? ⟨w.heap.size,o,none⟩=false:=fun o=>by rw [(bcell hb1).2 _ _ (by simp)];simp [go_sem]
 have hB1:=later (w:=w) (by go_grown) hb1
 clear hb1
 go_wp2_with fail
 refine (hck _ (hv0.out.below hB1)).mono ?_
 rintro e w2 ⟨rfl,hb2⟩
 have q0:=cell_below hb2 r0
 have q1:=cell_below hb2 r1
 have q2:=cell_below hb2 r2
 have hz:w.heap.size < w2.heap.size:=lt_of_cell q0
 have z2:∀ o,w2.frozen? ⟨w.heap.size,o,none⟩=false:=fun o=>by rw [(bcell hb2).2 _ _ (lt_of_cell r0)];exact z1 o
 have hB:=later hB1 hb2
 clear r0 r1 r2 z1 hB1 hb2 hck har
 have hx:=slices_IndexFunc 126 #[] (enters_of Tryz.func126 (by kernel_rfl) rfl) (fun x=>x.k != 0) _ l w2 (hv0.out.below hB) (fun W _ x _=>call_1 x W)
 generalize idxOf (fun v=>v.k != 0) l=m at *
 have hm0:0 ≤ max m 0:=by omega
 have hm1:max m 0 < (n:Int):=by omega
 have hm2:(max m 0).toNat=j:=by omega
 rw [← hm2] at c0 c1 c2
 have d0:=cell_below hB c0
 have d1:=cell_below hB c1
 have d2:=cell_below hB c2
 clear c0 c1 c2 hm hm2 hjn
 unfold GV.val
 go_wp2_with fail
 refine hx.mono ?_
 rintro e w3 ⟨rfl,hb3⟩
 have p0:=cell_below hb3 q0
 have p1:=cell_below hb3 q1
 have p2:=cell_below hb3 q2
 have f0:=cell_below hb3 d0
 have f1:=cell_below hb3 d1
 have f2:=cell_below hb3 d2
 have hz3:w.heap.size < w3.heap.size:=lt_of_cell p0
 have z3:∀ o,w3.frozen? ⟨w.heap.size,o,none⟩=false:=fun o=>by rw [(bcell hb3).2 _ _ (lt_of_cell q0)];exact z2 o
 have hB3:=later hB hb3
 clear q0 q1 q2 d0 d1 d2 z2 hz hB hx hb3
 go_wp2
 refine bodyPost_ret (ret_cells3 rfl rfl (by first | with_reducible exact stored3 p0 p1 p2 | with_reducible exact cells3_alloc (stored3 p0 p1 p2) | with_reducible exact cells3_alloc (cells3_alloc (stored3 p0 p1 p2))) (Tryz.isAgg26 _) (Tryz.sizeOf26 _)) rfl ?_
 exact Rets.mk rfl (by go_grown)
theorem Call_nullif (name:ByteArray) (v:Value) (l:List GV) (w:World) (hv:VS w v l) (lo hi:Int) (is:Bool) (har:∀ W,Calls Tryz.prog 124 #[.string name] W (Rets (.tuple #[.int .i64 lo,.int .i64 hi,.bool true]) W))
  (hck:∀ W,VS W v l → Calls Tryz.prog 105 #[v] W (Rets (.bool true) W)) (hl:¬ (l.length:Int) < lo) (hh:hi < 0 ∨ ¬ hi < (l.length:Int)) (e1:(name.toList == [99,111,97,108,101,115,99,101])=false) (e2:(name.toList == [110,117,108,108,105,102])=true) (x y:GV) (h0:l[0]?=some x) (h1:l[1]?=some y) (q:Bool) (hq:sameB x y=q) (r:GV) (hr:r=if q then GV.none else x) :
  Calls Tryz.prog 86 #[.string name,v] w (Rets (.tuple #[r.val,.int .i64 0]) w):=by
 have hv0:=Lib.hid hv
 obtain ⟨A,c,rfl,hlen,hcell⟩:=hv
 generalize hn:l.length=n at *
 have HN:=Lib.hid hn;clear hn
 obtain ⟨b,o,rfl,c0,c1,c2⟩:=hcell 0 x h0
 obtain ⟨b',o',he,g0,g1,g2⟩:=hcell 1 y h1
 simp only [Option.some.injEq,Addr.mk.injEq,and_true] at he
 obtain ⟨rfl,rfl⟩:=he
 have hn1:1 < n:=by have:=(List.getElem?_eq_some_iff.1 h1).1;rw [HN.out] at this;exact this
 have hn0:0 < n:=by omega
 rw [Nat.zero_mul,Nat.add_zero] at c0 c1 c2
 rw [Nat.one_mul] at g0 g1 g2
 have hs:=fun W=>value_Same x y W
 rw [hq] at hs
 clear hcell h0 h1 hq
 have HR:=Lib.hid hr;clear hr
 go_enter Tryz.func86,Tryz.ntmps86
 go_wp2_with fail
 refine (har _).mono ?_
 rintro e w1 ⟨rfl,hb1⟩
 have r0:=cell_below hb1 (a:=⟨w.heap.size,0,none⟩) (v:=.int .i64 0) (by simp [go_sem])
 have r1:=cell_below hb1 (a:=⟨w.heap.size,1,none⟩) (v:=.int .i64 0) (by simp [go_sem])
 have r2:=cell_below hb1 (a:=⟨w.heap.size,2,none⟩) (v:=.string ⟨#[]⟩) (by simp [go_sem])
 have z1:∀ o,w1.frozen? ⟨w.heap.size,o,none⟩=false:=fun o=>by rw [(bcell hb1).2 _ _ (by simp)];simp [go_sem]
 have hB1:=later (w:=w) (by go_grown) hb1
 clear hb1
 go_wp2_with fail
 refine (hck _ (hv0.out.below hB1)).mono ?_
 rintro e w2 ⟨rfl,hb2⟩
 have q0:=cell_below hb2 r0
 have q1:=cell_below hb2 r1
 have q2:=cell_below hb2 r2
 have hz:w.heap.size < w2.heap.size:=lt_of_cell q0
 have z2:∀ o,w2.frozen? ⟨w.heap.size,o,none⟩=false:=fun o=>by rw [(bcell hb2).2 _ _ (lt_of_cell r0)];exact z1 o
 have hB:=later hB1 hb2
 clear r0 r1 r2 z1 hB1 hb2 hck har
 have d0:=cell_below hB c0
 have d1:=cell_below hB c1
 have d2:=cell_below hB c2
 have e0:=cell_below hB g0
 have e1':=cell_below hB g1
 have e2':=cell_below hB g2
 have hzb:b < w2.heap.size:=lt_of_cell d0
 have hi0:(0:Int) < (n:Int):=by omega
 have hi1:(1:Int) < (n:Int):=by omega
 clear c0 c1 c2 g0 g1 g2
 unfold GV.val at hs
 rcases hh with hh | hh
 all_goals
  go_wp2_with fail
  refine wp_region_later (by kernel_rfl) (by kernel_rfl) ?_
  repeat (go_big_quiet_step (exact Calls.quiet_later (hs _) (fun _ _ h=>h)))
  refine wpQuiet_nil ?_
  rintro w3 ⟨u,rfl⟩
  have hb3:=laterW_below _ u
  generalize laterW _ u=w3 at *
  have p0:=cell_below hb3 q0
  have p1:=cell_below hb3 q1
  have p2:=cell_below hb3 q2
  have f0:=cell_below hb3 d0
  have f1:=cell_below hb3 d1
  have f2:=cell_below hb3 d2
  have hz3:w.heap.size < w3.heap.size:=lt_of_cell p0
  have z3:∀ o,w3.frozen? ⟨w.heap.size,o,none⟩=false:=fun o=>by rw [(bcell hb3).2 _ _ (lt_of_cell q0)];exact z2 o
  have hB3:=later hB hb3
  clear q0 q1 q2 d0 d1 d2 e0 e1' e2' z2 hz hB hs hb3 hzb
  cases q
  all_goals
   go_wp2
   refine bodyPost_ret (ret_cells3 rfl rfl (by first | with_reducible exact stored3 p0 p1 p2) (Tryz.isAgg26 _) (Tryz.sizeOf26 _)) rfl ?_
   exact Rets.mk (by rw [HR.out];rfl) (by go_grown)
end Go.Proofs.YtifdakibkadfiaaGreatDoor
end
