import Derived.Test.YtifdakibkadfiaaGreatDoorMg1
set_option linter.all false
set_option maxRecDepth 100000
set_option maxHeartbeats 8000000
section
namespace Go.Proofs.YtifdakibkadfiaaGreatDoor
open Go.RowKit Go.Shelf Go
def zY (w:World):Prop:=∃ m,w.cell? ⟨0,0,none⟩=some (.int .i64 m)
theorem zY.below {W w1:World} (h:zY W) (hb:Below W.heap.size W w1):zY w1:=let ⟨m,hm⟩:=h;⟨m,za hb hm⟩
def ZP:List (List UInt8):=[[43],[45],[42],[47],[37]]
def k9 (op:List UInt8) (a b:GV):GV × Int:=
 if !(a.ok && b.ok) then (GV.none,1)
 else if !(ZP.contains op) then (GV.none,1)
 else if a.k != 0 && a.k != 2 then (GV.none,20)
 else if b.k != 0 && b.k != 2 then (GV.none,20)
 else if a.k == 0 || b.k == 0 then (GV.none,0)
 else if (zm op a.i b.i).2 != 0 then (GV.none,(zm op a.i b.i).2)
 else (GV.num (zm op a.i b.i).1,0)
theorem zcd (op:ByteArray) (a b:Int) (w:World) (h:ZP.contains op.toList=true) (ha:I64 a) (hb:I64 b) :
  Calls Tryz.prog 108 #[.string op,.int .i64 a,.int .i64 b] w (zx (.tuple #[.int .i64 (zm op.toList a b).1,.int .i64 (zm op.toList a b).2]) w):=by
 have hh:op.toList=[43] ∨ op.toList=[45] ∨ op.toList=[42] ∨ op.toList=[47] ∨ op.toList=[37]:=by
  simp only [ZP,List.contains_cons,Bool.or_eq_true,beq_iff_eq,List.contains_nil,Bool.false_eq_true,or_false] at h
  exact h
 have hop:∀ l,op.toList=l → op=⟨l.toArray⟩:=by
  intro l hl
  subst hl
  rw [Go.ByteArray.toList_eq,Array.toArray_toList]
 rcases hh with h | h | h | h | h
 all_goals (have e:=hop _ h;rw [h];subst e)
 ·exact zcx a b w ha hb
 ·exact zdS a b w ha hb
 ·exact zd0 a b w ha hb
 ·exact zc9 a b w ha
 ·exact zcQ a b w
theorem zkH (a b:GV):[a,b].all GV.ok=(a.ok && b.ok):=by simp
theorem zj9 (a b:GV):([a,b].any fun x=>x.k == 0)=(a.k == 0 || b.k == 0):=by simp
theorem qf (a b:GV) (ha:I64 a.i) (hb:I64 b.i) (q:Bool) (hq:(a.ok && b.ok)=q) (W:World) (v:Value) (hv:VS W v [a,b]) :
  Calls Tryz.prog 105 #[v] W (zx (.bool q) W):=by
 have:=vx v [a,b] W hv (fun x hx=>by
  simp only [List.mem_cons,List.not_mem_nil,or_false] at hx
  rcases hx with rfl | rfl
  ·exact ha
  ·exact hb)
 rwa [zkH,hq] at this
theorem jD (a b:GV) (q:Bool) (hq:(a.k == 0 || b.k == 0)=q) (W:World) (v:Value) (hv:VS W v [a,b]) :
  Calls Tryz.prog 107 #[v] W (zx (.bool q) W):=by
 have:=yJ v [a,b] W hv
 rwa [zj9,hq] at this
theorem zeA (op:ByteArray) (a b:GV) (w:World) (ha:I64 a.i) (hb:I64 b.i) (hq:(a.ok && b.ok)=false) :
  Calls Tryz.prog 78 #[.string op,a.val,b.val] w (zx (.tuple #[GV.none.val,.int .i64 1]) w):=by
 have hc:=qf a b ha hb _ hq
 unfold GV.val
 clear hq ha hb
 go_enter Tryz.func78,Tryz.ntmps78
 go_wp2_with fail
 refine (hc _ _ (VS.made [a,b] (by simp) rfl rfl (by simp))).mono ?_
 rintro e w1 ⟨rfl,hb1⟩
 have r0:=za hb1 (a:=⟨w.heap.size + 1 + 1,0,none⟩) (v:=.int .i64 0) (by simp [go_sem])
 have r1:=za hb1 (a:=⟨w.heap.size + 1 + 1,1,none⟩) (v:=.int .i64 0) (by simp [go_sem])
 have r2:=za hb1 (a:=⟨w.heap.size + 1 + 1,2,none⟩) (v:=.string ⟨#[]⟩) (by simp [go_sem])
 have hz0:w.heap.size < w1.heap.size:=by have:=hb1.size;simp at this;omega
 have hz1:w.heap.size + 1 < w1.heap.size:=by have:=hb1.size;simp at this;omega
 have hz2:w.heap.size + 1 + 1 < w1.heap.size:=by have:=hb1.size;simp at this;omega
 obtain ⟨hc1,hf1⟩:=zK hb1
 have hB:=later (w:=w) (by go_grown) hb1
 go_wp2
 refine bodyPost_ret (zl rfl rfl (zj r0 r1 r2) (Tryz.isAgg26 _) (Tryz.sizeOf26 _)) rfl ?_
 exact zx.mk rfl (by go_grown)
theorem zeJ (op:ByteArray) (a b:GV) (w:World) (ha:I64 a.i) (hb:I64 b.i) (hq:(a.ok && b.ok)=true) (hs:((op.size:Int) != 1)=true) :
  Calls Tryz.prog 78 #[.string op,a.val,b.val] w (zx (.tuple #[GV.none.val,.int .i64 1]) w):=by
 have hc:=qf a b ha hb _ hq
 unfold GV.val
 clear hq ha hb
 go_enter Tryz.func78,Tryz.ntmps78
 go_wp2_with fail
 refine (hc _ _ (VS.made [a,b] (by simp) rfl rfl (by simp))).mono ?_
 rintro e w1 ⟨rfl,hb1⟩
 have r0:=za hb1 (a:=⟨w.heap.size + 1 + 1,0,none⟩) (v:=.int .i64 0) (by simp [go_sem])
 have r1:=za hb1 (a:=⟨w.heap.size + 1 + 1,1,none⟩) (v:=.int .i64 0) (by simp [go_sem])
 have r2:=za hb1 (a:=⟨w.heap.size + 1 + 1,2,none⟩) (v:=.string ⟨#[]⟩) (by simp [go_sem])
 have hz0:w.heap.size < w1.heap.size:=by have:=hb1.size;simp at this;omega
 have hz1:w.heap.size + 1 < w1.heap.size:=by have:=hb1.size;simp at this;omega
 have hz2:w.heap.size + 1 + 1 < w1.heap.size:=by have:=hb1.size;simp at this;omega
 obtain ⟨hc1,hf1⟩:=zK hb1
 have hB:=later (w:=w) (by go_grown) hb1
 go_wp2
 refine bodyPost_ret (zl rfl rfl (zj r0 r1 r2) (Tryz.isAgg26 _) (Tryz.sizeOf26 _)) rfl ?_
 exact zx.mk rfl (by go_grown)
theorem zdt (c:UInt8) (a b:GV) (w:World) (ha:I64 a.i) (hb:I64 b.i) (hq:(a.ok && b.ok)=true) (hs:decide (0 ≤ Lib.indexByte [43,45,42,47,37] c)=false) :
  Calls Tryz.prog 78 #[.string ⟨#[c]⟩,a.val,b.val] w (zx (.tuple #[GV.none.val,.int .i64 1]) w):=by
 have hc:=qf a b ha hb _ hq
 have hk:=fun W=>Tryz.strings_Contains_one ⟨#[43,45,42,47,37]⟩ c W
 simp only [hs] at hk
 unfold GV.val
 clear hq ha hb hs
 go_enter Tryz.func78,Tryz.ntmps78
 go_wp2_with fail
 refine (hc _ _ (VS.made [a,b] (by simp) rfl rfl (by simp))).mono ?_
 rintro e w1 ⟨rfl,hb1⟩
 have r0:=za hb1 (a:=⟨w.heap.size + 1 + 1,0,none⟩) (v:=.int .i64 0) (by simp [go_sem])
 have r1:=za hb1 (a:=⟨w.heap.size + 1 + 1,1,none⟩) (v:=.int .i64 0) (by simp [go_sem])
 have r2:=za hb1 (a:=⟨w.heap.size + 1 + 1,2,none⟩) (v:=.string ⟨#[]⟩) (by simp [go_sem])
 have hz0:w.heap.size < w1.heap.size:=by have:=hb1.size;simp at this;omega
 have hz1:w.heap.size + 1 < w1.heap.size:=by have:=hb1.size;simp at this;omega
 have hz2:w.heap.size + 1 + 1 < w1.heap.size:=by have:=hb1.size;simp at this;omega
 obtain ⟨hc1,hf1⟩:=zK hb1
 have hB:=later (w:=w) (by go_grown) hb1
 go_wp2_with fail
 refine (hk _).mono ?_
 rintro e w2 ⟨rfl,rfl⟩
 go_wp2
 refine bodyPost_ret (zl rfl rfl (zj r0 r1 r2) (Tryz.isAgg26 _) (Tryz.sizeOf26 _)) rfl ?_
 exact zx.mk rfl (by go_grown)
theorem YB (c:UInt8) (a b:GV) (w:World) (ha:I64 a.i) (hb:I64 b.i) (hq:(a.ok && b.ok)=true) (hs:decide (0 ≤ Lib.indexByte [43,45,42,47,37] c)=true)
  (h0:(a.k != 0)=true) (h2:(a.k != 2)=true) :
  Calls Tryz.prog 78 #[.string ⟨#[c]⟩,a.val,b.val] w (zx (.tuple #[GV.none.val,.int .i64 20]) w):=by
 have hc:=qf a b ha hb _ hq
 have hk:=fun W=>Tryz.strings_Contains_one ⟨#[43,45,42,47,37]⟩ c W
 simp only [hs] at hk
 unfold GV.val
 clear hq ha hb hs
 go_enter Tryz.func78,Tryz.ntmps78
 go_wp2_with fail
 refine (hc _ _ (VS.made [a,b] (by simp) rfl rfl (by simp))).mono ?_
 rintro e w1 ⟨rfl,hb1⟩
 have r0:=za hb1 (a:=⟨w.heap.size + 1 + 1,0,none⟩) (v:=.int .i64 0) (by simp [go_sem])
 have r1:=za hb1 (a:=⟨w.heap.size + 1 + 1,1,none⟩) (v:=.int .i64 0) (by simp [go_sem])
 have r2:=za hb1 (a:=⟨w.heap.size + 1 + 1,2,none⟩) (v:=.string ⟨#[]⟩) (by simp [go_sem])
 have hz0:w.heap.size < w1.heap.size:=by have:=hb1.size;simp at this;omega
 have hz1:w.heap.size + 1 < w1.heap.size:=by have:=hb1.size;simp at this;omega
 have hz2:w.heap.size + 1 + 1 < w1.heap.size:=by have:=hb1.size;simp at this;omega
 obtain ⟨hc1,hf1⟩:=zK hb1
 have hB:=later (w:=w) (by go_grown) hb1
 go_wp2_with fail
 refine (hk _).mono ?_
 rintro e w2 ⟨rfl,hw⟩
 obtain rfl:w1=w2:=hw.symm
 have i0:∀ W,(Instr.index 159 (.agg #[.int .i64 a.k,.int .i64 a.i,.string a.s,.int .i64 b.k,.int .i64 b.i,.string b.s]) (.int .i64 0)).run Tryz.prog W = .ok (.agg #[.int .i64 a.k,.int .i64 a.i,.string a.s]) W:=fun _=>by kernel_rfl
 have i1:∀ W,(Instr.index 159 (.agg #[.int .i64 a.k,.int .i64 a.i,.string a.s,.int .i64 b.k,.int .i64 b.i,.string b.s]) (.int .i64 1)).run Tryz.prog W = .ok (.agg #[.int .i64 b.k,.int .i64 b.i,.string b.s]) W:=fun _=>by kernel_rfl
 go_wp2_with fail
 refine wp_loop_rounds 3 ?_
 repeat any_goals (rw [rounds_succ];go_wp2_with fail)
 refine bodyPost_ret (zl rfl rfl (by first | with_reducible exact zj r0 r1 r2 | with_reducible exact zb (zj r0 r1 r2) | with_reducible exact zb (zb (zj r0 r1 r2)) | with_reducible exact zb (zb (zb (zj r0 r1 r2))) | with_reducible exact zb (zb (zb (zb (zj r0 r1 r2))))) (Tryz.isAgg26 _) (Tryz.sizeOf26 _)) rfl ?_
 exact zx.mk rfl (by go_grown)
theorem WV (c:UInt8) (a b:GV) (w:World) (ha:I64 a.i) (hb:I64 b.i) (hq:(a.ok && b.ok)=true) (hs:decide (0 ≤ Lib.indexByte [43,45,42,47,37] c)=true)
  (h0:(a.k != 0)=false) (h1:(b.k != 0)=true) (h2:(b.k != 2)=true) :
  Calls Tryz.prog 78 #[.string ⟨#[c]⟩,a.val,b.val] w (zx (.tuple #[GV.none.val,.int .i64 20]) w):=by
 have hc:=qf a b ha hb _ hq
 have hk:=fun W=>Tryz.strings_Contains_one ⟨#[43,45,42,47,37]⟩ c W
 simp only [hs] at hk
 unfold GV.val
 clear hq ha hb hs
 go_enter Tryz.func78,Tryz.ntmps78
 go_wp2_with fail
 refine (hc _ _ (VS.made [a,b] (by simp) rfl rfl (by simp))).mono ?_
 rintro e w1 ⟨rfl,hb1⟩
 have r0:=za hb1 (a:=⟨w.heap.size + 1 + 1,0,none⟩) (v:=.int .i64 0) (by simp [go_sem])
 have r1:=za hb1 (a:=⟨w.heap.size + 1 + 1,1,none⟩) (v:=.int .i64 0) (by simp [go_sem])
 have r2:=za hb1 (a:=⟨w.heap.size + 1 + 1,2,none⟩) (v:=.string ⟨#[]⟩) (by simp [go_sem])
 have hz0:w.heap.size < w1.heap.size:=by have:=hb1.size;simp at this;omega
 have hz1:w.heap.size + 1 < w1.heap.size:=by have:=hb1.size;simp at this;omega
 have hz2:w.heap.size + 1 + 1 < w1.heap.size:=by have:=hb1.size;simp at this;omega
 obtain ⟨hc1,hf1⟩:=zK hb1
 have hB:=later (w:=w) (by go_grown) hb1
 go_wp2_with fail
 refine (hk _).mono ?_
 rintro e w2 ⟨rfl,hw⟩
 obtain rfl:w1=w2:=hw.symm
 have i0:∀ W,(Instr.index 159 (.agg #[.int .i64 a.k,.int .i64 a.i,.string a.s,.int .i64 b.k,.int .i64 b.i,.string b.s]) (.int .i64 0)).run Tryz.prog W = .ok (.agg #[.int .i64 a.k,.int .i64 a.i,.string a.s]) W:=fun _=>by kernel_rfl
 have i1:∀ W,(Instr.index 159 (.agg #[.int .i64 a.k,.int .i64 a.i,.string a.s,.int .i64 b.k,.int .i64 b.i,.string b.s]) (.int .i64 1)).run Tryz.prog W = .ok (.agg #[.int .i64 b.k,.int .i64 b.i,.string b.s]) W:=fun _=>by kernel_rfl
 go_wp2_with fail
 refine wp_loop_rounds 3 ?_
 repeat any_goals (rw [rounds_succ];go_wp2_with fail)
 refine bodyPost_ret (zl rfl rfl (by first | with_reducible exact zj r0 r1 r2 | with_reducible exact zb (zj r0 r1 r2) | with_reducible exact zb (zb (zj r0 r1 r2)) | with_reducible exact zb (zb (zb (zj r0 r1 r2))) | with_reducible exact zb (zb (zb (zb (zj r0 r1 r2))))) (Tryz.isAgg26 _) (Tryz.sizeOf26 _)) rfl ?_
 exact zx.mk rfl (by go_grown)
theorem WL (c:UInt8) (a b:GV) (w:World) (ha:I64 a.i) (hb:I64 b.i) (hq:(a.ok && b.ok)=true) (hs:decide (0 ≤ Lib.indexByte [43,45,42,47,37] c)=true)
  (h0:(a.k != 0)=true) (h0':(a.k != 2)=false) (h1:(b.k != 0)=true) (h2:(b.k != 2)=true) :
  Calls Tryz.prog 78 #[.string ⟨#[c]⟩,a.val,b.val] w (zx (.tuple #[GV.none.val,.int .i64 20]) w):=by
 have hc:=qf a b ha hb _ hq
 have hk:=fun W=>Tryz.strings_Contains_one ⟨#[43,45,42,47,37]⟩ c W
 simp only [hs] at hk
 unfold GV.val
 clear hq ha hb hs
 go_enter Tryz.func78,Tryz.ntmps78
 go_wp2_with fail
 refine (hc _ _ (VS.made [a,b] (by simp) rfl rfl (by simp))).mono ?_
 rintro e w1 ⟨rfl,hb1⟩
 have r0:=za hb1 (a:=⟨w.heap.size + 1 + 1,0,none⟩) (v:=.int .i64 0) (by simp [go_sem])
 have r1:=za hb1 (a:=⟨w.heap.size + 1 + 1,1,none⟩) (v:=.int .i64 0) (by simp [go_sem])
 have r2:=za hb1 (a:=⟨w.heap.size + 1 + 1,2,none⟩) (v:=.string ⟨#[]⟩) (by simp [go_sem])
 have hz0:w.heap.size < w1.heap.size:=by have:=hb1.size;simp at this;omega
 have hz1:w.heap.size + 1 < w1.heap.size:=by have:=hb1.size;simp at this;omega
 have hz2:w.heap.size + 1 + 1 < w1.heap.size:=by have:=hb1.size;simp at this;omega
 obtain ⟨hc1,hf1⟩:=zK hb1
 have hB:=later (w:=w) (by go_grown) hb1
 go_wp2_with fail
 refine (hk _).mono ?_
 rintro e w2 ⟨rfl,hw⟩
 obtain rfl:w1=w2:=hw.symm
 have i0:∀ W,(Instr.index 159 (.agg #[.int .i64 a.k,.int .i64 a.i,.string a.s,.int .i64 b.k,.int .i64 b.i,.string b.s]) (.int .i64 0)).run Tryz.prog W = .ok (.agg #[.int .i64 a.k,.int .i64 a.i,.string a.s]) W:=fun _=>by kernel_rfl
 have i1:∀ W,(Instr.index 159 (.agg #[.int .i64 a.k,.int .i64 a.i,.string a.s,.int .i64 b.k,.int .i64 b.i,.string b.s]) (.int .i64 1)).run Tryz.prog W = .ok (.agg #[.int .i64 b.k,.int .i64 b.i,.string b.s]) W:=fun _=>by kernel_rfl
 go_wp2_with fail
 refine wp_loop_rounds 3 ?_
 repeat any_goals (rw [rounds_succ];go_wp2_with fail)
 refine bodyPost_ret (zl rfl rfl (by first | with_reducible exact zj r0 r1 r2 | with_reducible exact zb (zj r0 r1 r2) | with_reducible exact zb (zb (zj r0 r1 r2)) | with_reducible exact zb (zb (zb (zj r0 r1 r2))) | with_reducible exact zb (zb (zb (zb (zj r0 r1 r2))))) (Tryz.isAgg26 _) (Tryz.sizeOf26 _)) rfl ?_
 exact zx.mk rfl (by go_grown)
theorem zaX (c:UInt8) (a b:GV) (w:World) (ha:I64 a.i) (hb:I64 b.i) (hq:(a.ok && b.ok)=true) (hs:decide (0 ≤ Lib.indexByte [43,45,42,47,37] c)=true)
  (h0:(a.k != 0)=false) (h1:(b.k != 0)=false) (hnull:(a.k == 0 || b.k == 0)=true) :
  Calls Tryz.prog 78 #[.string ⟨#[c]⟩,a.val,b.val] w (zx (.tuple #[GV.none.val,.int .i64 0]) w):=by
 have hc:=qf a b ha hb _ hq
 have hk:=fun W=>Tryz.strings_Contains_one ⟨#[43,45,42,47,37]⟩ c W
 simp only [hs] at hk
 have hn:=jD a b _ hnull
 clear hnull
 unfold GV.val
 clear hq ha hb hs
 go_enter Tryz.func78,Tryz.ntmps78
 go_wp2_with fail
 refine (hc _ _ (VS.made [a,b] (by simp) rfl rfl (by simp))).mono ?_
 rintro e w1 ⟨rfl,hb1⟩
 have r0:=za hb1 (a:=⟨w.heap.size + 1 + 1,0,none⟩) (v:=.int .i64 0) (by simp [go_sem])
 have r1:=za hb1 (a:=⟨w.heap.size + 1 + 1,1,none⟩) (v:=.int .i64 0) (by simp [go_sem])
 have r2:=za hb1 (a:=⟨w.heap.size + 1 + 1,2,none⟩) (v:=.string ⟨#[]⟩) (by simp [go_sem])
 have hz0:w.heap.size < w1.heap.size:=by have:=hb1.size;simp at this;omega
 have hz1:w.heap.size + 1 < w1.heap.size:=by have:=hb1.size;simp at this;omega
 have hz2:w.heap.size + 1 + 1 < w1.heap.size:=by have:=hb1.size;simp at this;omega
 obtain ⟨hc1,hf1⟩:=zK hb1
 have hB:=later (w:=w) (by go_grown) hb1
 go_wp2_with fail
 refine (hk _).mono ?_
 rintro e w2 ⟨rfl,hw⟩
 obtain rfl:w1=w2:=hw.symm
 have i0:∀ W,(Instr.index 159 (.agg #[.int .i64 a.k,.int .i64 a.i,.string a.s,.int .i64 b.k,.int .i64 b.i,.string b.s]) (.int .i64 0)).run Tryz.prog W = .ok (.agg #[.int .i64 a.k,.int .i64 a.i,.string a.s]) W:=fun _=>by kernel_rfl
 have i1:∀ W,(Instr.index 159 (.agg #[.int .i64 a.k,.int .i64 a.i,.string a.s,.int .i64 b.k,.int .i64 b.i,.string b.s]) (.int .i64 1)).run Tryz.prog W = .ok (.agg #[.int .i64 b.k,.int .i64 b.i,.string b.s]) W:=fun _=>by kernel_rfl
 go_wp2_with fail
 refine wp_loop_rounds 3 ?_
 repeat any_goals (rw [rounds_succ];go_wp2_with fail)
 refine (hn _ _ (VS.made [a,b] (by first | (with_reducible rfl) | simp | simp [go_sem]) rfl rfl (by simp))).mono ?_
 rintro e w3 ⟨rfl,hb3⟩
 have q0:=za hb3 (zc (zc (zc r0)))
 have q1:=za hb3 (zc (zc (zc r1)))
 have q2:=za hb3 (zc (zc (zc r2)))
 have ai:=za hb3 (zc (zc (zc (za hb1 (a:=⟨w.heap.size,1,none⟩) (v:=.int .i64 a.i) (by simp [go_sem])))))
 have bi:=za hb3 (zc (zc (zc (za hb1 (a:=⟨w.heap.size + 1,1,none⟩) (v:=.int .i64 b.i) (by simp [go_sem])))))
 have fz:=zK hb3
 have hB3:=later (w:=w) (by go_grown) hb3
 have hz30:w.heap.size < w3.heap.size:=by have:=hb3.size;simp at this;omega
 have hz31:w.heap.size + 1 < w3.heap.size:=by have:=hb3.size;simp at this;omega
 have hz32:w.heap.size + 1 + 1 < w3.heap.size:=by have:=hb3.size;simp at this;omega
 have f0:w3.frozen? ⟨w.heap.size + 1 + 1,0,none⟩=false:=by rw [fz.2 _ _ (by simp;omega)];simp [go_sem, *]
 have f1:w3.frozen? ⟨w.heap.size + 1 + 1,1,none⟩=false:=by rw [fz.2 _ _ (by simp;omega)];simp [go_sem, *]
 have f2:w3.frozen? ⟨w.heap.size + 1 + 1,2,none⟩=false:=by rw [fz.2 _ _ (by simp;omega)];simp [go_sem, *]
 clear hc1 hf1 fz r0 r1 r2 hB hz0 hz1 hz2 i0 i1 hc hk
 go_wp2
 refine bodyPost_ret (zl rfl rfl (by first | with_reducible exact zj q0 q1 q2 | with_reducible exact zb (zj q0 q1 q2) | with_reducible exact zb (zb (zj q0 q1 q2)) | with_reducible exact zb (zb (zb (zj q0 q1 q2))) | with_reducible exact zb (zb (zb (zb (zj q0 q1 q2))))) (Tryz.isAgg26 _) (Tryz.sizeOf26 _)) rfl ?_
 exact zx.mk rfl (by go_grown)
theorem zao (c:UInt8) (a b:GV) (w:World) (ha:I64 a.i) (hb:I64 b.i) (hq:(a.ok && b.ok)=true) (hs:decide (0 ≤ Lib.indexByte [43,45,42,47,37] c)=true)
  (h0:(a.k != 0)=false) (h1:(b.k != 0)=true) (h1':(b.k != 2)=false) (hnull:(a.k == 0 || b.k == 0)=true) :
  Calls Tryz.prog 78 #[.string ⟨#[c]⟩,a.val,b.val] w (zx (.tuple #[GV.none.val,.int .i64 0]) w):=by
 have hc:=qf a b ha hb _ hq
 have hk:=fun W=>Tryz.strings_Contains_one ⟨#[43,45,42,47,37]⟩ c W
 simp only [hs] at hk
 have hn:=jD a b _ hnull
 clear hnull
 unfold GV.val
 clear hq ha hb hs
 go_enter Tryz.func78,Tryz.ntmps78
 go_wp2_with fail
 refine (hc _ _ (VS.made [a,b] (by simp) rfl rfl (by simp))).mono ?_
 rintro e w1 ⟨rfl,hb1⟩
 have r0:=za hb1 (a:=⟨w.heap.size + 1 + 1,0,none⟩) (v:=.int .i64 0) (by simp [go_sem])
 have r1:=za hb1 (a:=⟨w.heap.size + 1 + 1,1,none⟩) (v:=.int .i64 0) (by simp [go_sem])
 have r2:=za hb1 (a:=⟨w.heap.size + 1 + 1,2,none⟩) (v:=.string ⟨#[]⟩) (by simp [go_sem])
 have hz0:w.heap.size < w1.heap.size:=by have:=hb1.size;simp at this;omega
 have hz1:w.heap.size + 1 < w1.heap.size:=by have:=hb1.size;simp at this;omega
 have hz2:w.heap.size + 1 + 1 < w1.heap.size:=by have:=hb1.size;simp at this;omega
 obtain ⟨hc1,hf1⟩:=zK hb1
 have hB:=later (w:=w) (by go_grown) hb1
 go_wp2_with fail
 refine (hk _).mono ?_
 rintro e w2 ⟨rfl,hw⟩
 obtain rfl:w1=w2:=hw.symm
 have i0:∀ W,(Instr.index 159 (.agg #[.int .i64 a.k,.int .i64 a.i,.string a.s,.int .i64 b.k,.int .i64 b.i,.string b.s]) (.int .i64 0)).run Tryz.prog W = .ok (.agg #[.int .i64 a.k,.int .i64 a.i,.string a.s]) W:=fun _=>by kernel_rfl
 have i1:∀ W,(Instr.index 159 (.agg #[.int .i64 a.k,.int .i64 a.i,.string a.s,.int .i64 b.k,.int .i64 b.i,.string b.s]) (.int .i64 1)).run Tryz.prog W = .ok (.agg #[.int .i64 b.k,.int .i64 b.i,.string b.s]) W:=fun _=>by kernel_rfl
 go_wp2_with fail
 refine wp_loop_rounds 3 ?_
 repeat any_goals (rw [rounds_succ];go_wp2_with fail)
 refine (hn _ _ (VS.made [a,b] (by first | (with_reducible rfl) | simp | simp [go_sem]) rfl rfl (by simp))).mono ?_
 rintro e w3 ⟨rfl,hb3⟩
 have q0:=za hb3 (zc (zc (zc r0)))
 have q1:=za hb3 (zc (zc (zc r1)))
 have q2:=za hb3 (zc (zc (zc r2)))
 have ai:=za hb3 (zc (zc (zc (za hb1 (a:=⟨w.heap.size,1,none⟩) (v:=.int .i64 a.i) (by simp [go_sem])))))
 have bi:=za hb3 (zc (zc (zc (za hb1 (a:=⟨w.heap.size + 1,1,none⟩) (v:=.int .i64 b.i) (by simp [go_sem])))))
 have fz:=zK hb3
 have hB3:=later (w:=w) (by go_grown) hb3
 have hz30:w.heap.size < w3.heap.size:=by have:=hb3.size;simp at this;omega
 have hz31:w.heap.size + 1 < w3.heap.size:=by have:=hb3.size;simp at this;omega
 have hz32:w.heap.size + 1 + 1 < w3.heap.size:=by have:=hb3.size;simp at this;omega
 have f0:w3.frozen? ⟨w.heap.size + 1 + 1,0,none⟩=false:=by rw [fz.2 _ _ (by simp;omega)];simp [go_sem, *]
 have f1:w3.frozen? ⟨w.heap.size + 1 + 1,1,none⟩=false:=by rw [fz.2 _ _ (by simp;omega)];simp [go_sem, *]
 have f2:w3.frozen? ⟨w.heap.size + 1 + 1,2,none⟩=false:=by rw [fz.2 _ _ (by simp;omega)];simp [go_sem, *]
 clear hc1 hf1 fz r0 r1 r2 hB hz0 hz1 hz2 i0 i1 hc hk
 go_wp2
 refine bodyPost_ret (zl rfl rfl (by first | with_reducible exact zj q0 q1 q2 | with_reducible exact zb (zj q0 q1 q2) | with_reducible exact zb (zb (zj q0 q1 q2)) | with_reducible exact zb (zb (zb (zj q0 q1 q2))) | with_reducible exact zb (zb (zb (zb (zj q0 q1 q2))))) (Tryz.isAgg26 _) (Tryz.sizeOf26 _)) rfl ?_
 exact zx.mk rfl (by go_grown)
theorem Yn (c:UInt8) (a b:GV) (w:World) (ha:I64 a.i) (hb:I64 b.i) (hq:(a.ok && b.ok)=true) (hs:decide (0 ≤ Lib.indexByte [43,45,42,47,37] c)=true)
  (h0:(a.k != 0)=true) (h0':(a.k != 2)=false) (h1:(b.k != 0)=false) (hnull:(a.k == 0 || b.k == 0)=true) :
  Calls Tryz.prog 78 #[.string ⟨#[c]⟩,a.val,b.val] w (zx (.tuple #[GV.none.val,.int .i64 0]) w):=by
 have hc:=qf a b ha hb _ hq
 have hk:=fun W=>Tryz.strings_Contains_one ⟨#[43,45,42,47,37]⟩ c W
 simp only [hs] at hk
 have hn:=jD a b _ hnull
 clear hnull
 unfold GV.val
 clear hq ha hb hs
 go_enter Tryz.func78,Tryz.ntmps78
 go_wp2_with fail
 refine (hc _ _ (VS.made [a,b] (by simp) rfl rfl (by simp))).mono ?_
 rintro e w1 ⟨rfl,hb1⟩
 have r0:=za hb1 (a:=⟨w.heap.size + 1 + 1,0,none⟩) (v:=.int .i64 0) (by simp [go_sem])
 have r1:=za hb1 (a:=⟨w.heap.size + 1 + 1,1,none⟩) (v:=.int .i64 0) (by simp [go_sem])
 have r2:=za hb1 (a:=⟨w.heap.size + 1 + 1,2,none⟩) (v:=.string ⟨#[]⟩) (by simp [go_sem])
 have hz0:w.heap.size < w1.heap.size:=by have:=hb1.size;simp at this;omega
 have hz1:w.heap.size + 1 < w1.heap.size:=by have:=hb1.size;simp at this;omega
 have hz2:w.heap.size + 1 + 1 < w1.heap.size:=by have:=hb1.size;simp at this;omega
 obtain ⟨hc1,hf1⟩:=zK hb1
 have hB:=later (w:=w) (by go_grown) hb1
 go_wp2_with fail
 refine (hk _).mono ?_
 rintro e w2 ⟨rfl,hw⟩
 obtain rfl:w1=w2:=hw.symm
 have i0:∀ W,(Instr.index 159 (.agg #[.int .i64 a.k,.int .i64 a.i,.string a.s,.int .i64 b.k,.int .i64 b.i,.string b.s]) (.int .i64 0)).run Tryz.prog W = .ok (.agg #[.int .i64 a.k,.int .i64 a.i,.string a.s]) W:=fun _=>by kernel_rfl
 have i1:∀ W,(Instr.index 159 (.agg #[.int .i64 a.k,.int .i64 a.i,.string a.s,.int .i64 b.k,.int .i64 b.i,.string b.s]) (.int .i64 1)).run Tryz.prog W = .ok (.agg #[.int .i64 b.k,.int .i64 b.i,.string b.s]) W:=fun _=>by kernel_rfl
 go_wp2_with fail
 refine wp_loop_rounds 3 ?_
 repeat any_goals (rw [rounds_succ];go_wp2_with fail)
 refine (hn _ _ (VS.made [a,b] (by first | (with_reducible rfl) | simp | simp [go_sem]) rfl rfl (by simp))).mono ?_
 rintro e w3 ⟨rfl,hb3⟩
 have q0:=za hb3 (zc (zc (zc r0)))
 have q1:=za hb3 (zc (zc (zc r1)))
 have q2:=za hb3 (zc (zc (zc r2)))
 have ai:=za hb3 (zc (zc (zc (za hb1 (a:=⟨w.heap.size,1,none⟩) (v:=.int .i64 a.i) (by simp [go_sem])))))
 have bi:=za hb3 (zc (zc (zc (za hb1 (a:=⟨w.heap.size + 1,1,none⟩) (v:=.int .i64 b.i) (by simp [go_sem])))))
 have fz:=zK hb3
 have hB3:=later (w:=w) (by go_grown) hb3
 have hz30:w.heap.size < w3.heap.size:=by have:=hb3.size;simp at this;omega
 have hz31:w.heap.size + 1 < w3.heap.size:=by have:=hb3.size;simp at this;omega
 have hz32:w.heap.size + 1 + 1 < w3.heap.size:=by have:=hb3.size;simp at this;omega
 have f0:w3.frozen? ⟨w.heap.size + 1 + 1,0,none⟩=false:=by rw [fz.2 _ _ (by simp;omega)];simp [go_sem, *]
 have f1:w3.frozen? ⟨w.heap.size + 1 + 1,1,none⟩=false:=by rw [fz.2 _ _ (by simp;omega)];simp [go_sem, *]
 have f2:w3.frozen? ⟨w.heap.size + 1 + 1,2,none⟩=false:=by rw [fz.2 _ _ (by simp;omega)];simp [go_sem, *]
 clear hc1 hf1 fz r0 r1 r2 hB hz0 hz1 hz2 i0 i1 hc hk
 go_wp2
 refine bodyPost_ret (zl rfl rfl (by first | with_reducible exact zj q0 q1 q2 | with_reducible exact zb (zj q0 q1 q2) | with_reducible exact zb (zb (zj q0 q1 q2)) | with_reducible exact zb (zb (zb (zj q0 q1 q2))) | with_reducible exact zb (zb (zb (zb (zj q0 q1 q2))))) (Tryz.isAgg26 _) (Tryz.sizeOf26 _)) rfl ?_
 exact zx.mk rfl (by go_grown)
theorem zfy (c:UInt8) (a b:GV) (w:World) (ha:I64 a.i) (hb:I64 b.i) (hq:(a.ok && b.ok)=true) (hs:decide (0 ≤ Lib.indexByte [43,45,42,47,37] c)=true)
  (h0:(a.k != 0)=true) (h0':(a.k != 2)=false) (h1:(b.k != 0)=true) (h1':(b.k != 2)=false) (hnull:(a.k == 0 || b.k == 0)=false) (n er:Int) (hr:∀ W,Calls Tryz.prog 108 #[.string ⟨#[c]⟩,.int .i64 a.i,.int .i64 b.i] W (zx (.tuple #[.int .i64 n,.int .i64 er]) W)) (her:(er != 0)=true) :
  Calls Tryz.prog 78 #[.string ⟨#[c]⟩,a.val,b.val] w (zx (.tuple #[GV.none.val,.int .i64 er]) w):=by
 have hc:=qf a b ha hb _ hq
 have hk:=fun W=>Tryz.strings_Contains_one ⟨#[43,45,42,47,37]⟩ c W
 simp only [hs] at hk
 have hn:=jD a b _ hnull
 clear hnull
 unfold GV.val
 clear hq ha hb hs
 go_enter Tryz.func78,Tryz.ntmps78
 go_wp2_with fail
 refine (hc _ _ (VS.made [a,b] (by simp) rfl rfl (by simp))).mono ?_
 rintro e w1 ⟨rfl,hb1⟩
 have r0:=za hb1 (a:=⟨w.heap.size + 1 + 1,0,none⟩) (v:=.int .i64 0) (by simp [go_sem])
 have r1:=za hb1 (a:=⟨w.heap.size + 1 + 1,1,none⟩) (v:=.int .i64 0) (by simp [go_sem])
 have r2:=za hb1 (a:=⟨w.heap.size + 1 + 1,2,none⟩) (v:=.string ⟨#[]⟩) (by simp [go_sem])
 have hz0:w.heap.size < w1.heap.size:=by have:=hb1.size;simp at this;omega
 have hz1:w.heap.size + 1 < w1.heap.size:=by have:=hb1.size;simp at this;omega
 have hz2:w.heap.size + 1 + 1 < w1.heap.size:=by have:=hb1.size;simp at this;omega
 obtain ⟨hc1,hf1⟩:=zK hb1
 have hB:=later (w:=w) (by go_grown) hb1
 go_wp2_with fail
 refine (hk _).mono ?_
 rintro e w2 ⟨rfl,hw⟩
 obtain rfl:w1=w2:=hw.symm
 have i0:∀ W,(Instr.index 159 (.agg #[.int .i64 a.k,.int .i64 a.i,.string a.s,.int .i64 b.k,.int .i64 b.i,.string b.s]) (.int .i64 0)).run Tryz.prog W = .ok (.agg #[.int .i64 a.k,.int .i64 a.i,.string a.s]) W:=fun _=>by kernel_rfl
 have i1:∀ W,(Instr.index 159 (.agg #[.int .i64 a.k,.int .i64 a.i,.string a.s,.int .i64 b.k,.int .i64 b.i,.string b.s]) (.int .i64 1)).run Tryz.prog W = .ok (.agg #[.int .i64 b.k,.int .i64 b.i,.string b.s]) W:=fun _=>by kernel_rfl
 go_wp2_with fail
 refine wp_loop_rounds 3 ?_
 repeat any_goals (rw [rounds_succ];go_wp2_with fail)
 refine (hn _ _ (VS.made [a,b] (by first | (with_reducible rfl) | simp | simp [go_sem]) rfl rfl (by simp))).mono ?_
 rintro e w3 ⟨rfl,hb3⟩
 have q0:=za hb3 (zc (zc (zc r0)))
 have q1:=za hb3 (zc (zc (zc r1)))
 have q2:=za hb3 (zc (zc (zc r2)))
 have ai:=za hb3 (zc (zc (zc (za hb1 (a:=⟨w.heap.size,1,none⟩) (v:=.int .i64 a.i) (by simp [go_sem])))))
 have bi:=za hb3 (zc (zc (zc (za hb1 (a:=⟨w.heap.size + 1,1,none⟩) (v:=.int .i64 b.i) (by simp [go_sem])))))
 have fz:=zK hb3
 have hB3:=later (w:=w) (by go_grown) hb3
 have hz30:w.heap.size < w3.heap.size:=by have:=hb3.size;simp at this;omega
 have hz31:w.heap.size + 1 < w3.heap.size:=by have:=hb3.size;simp at this;omega
 have hz32:w.heap.size + 1 + 1 < w3.heap.size:=by have:=hb3.size;simp at this;omega
 have f0:w3.frozen? ⟨w.heap.size + 1 + 1,0,none⟩=false:=by rw [fz.2 _ _ (by simp;omega)];simp [go_sem, *]
 have f1:w3.frozen? ⟨w.heap.size + 1 + 1,1,none⟩=false:=by rw [fz.2 _ _ (by simp;omega)];simp [go_sem, *]
 have f2:w3.frozen? ⟨w.heap.size + 1 + 1,2,none⟩=false:=by rw [fz.2 _ _ (by simp;omega)];simp [go_sem, *]
 clear hc1 hf1 fz r0 r1 r2 hB hz0 hz1 hz2 i0 i1 hc hk
 go_wp2_with fail
 refine (hr _).mono ?_
 rintro e w4 ⟨rfl,hb4⟩
 have p0:=za hb4 q0
 have p1:=za hb4 q1
 have p2:=za hb4 q2
 have g0:w4.frozen? ⟨w.heap.size + 1 + 1,0,none⟩=false:=by rw [(zK hb4).2 _ _ hz32];exact f0
 have g1:w4.frozen? ⟨w.heap.size + 1 + 1,1,none⟩=false:=by rw [(zK hb4).2 _ _ hz32];exact f1
 have g2:w4.frozen? ⟨w.heap.size + 1 + 1,2,none⟩=false:=by rw [(zK hb4).2 _ _ hz32];exact f2
 have hB4:=later hB3 hb4
 have hz42:w.heap.size + 1 + 1 < w4.heap.size:=by have:=hb4.size;omega
 clear q0 q1 q2 f0 f1 f2 ai bi hB3 hz30 hz31 hz32
 go_wp2
 refine bodyPost_ret (zl rfl rfl (by first | with_reducible exact zj p0 p1 p2 | with_reducible exact zb (zj p0 p1 p2) | with_reducible exact zb (zb (zj p0 p1 p2)) | with_reducible exact zb (zb (zb (zj p0 p1 p2))) | with_reducible exact zb (zb (zb (zb (zj p0 p1 p2))))) (Tryz.isAgg26 _) (Tryz.sizeOf26 _)) rfl ?_
 exact zx.mk rfl (by go_grown)
theorem zh5 (c:UInt8) (a b:GV) (w:World) (ha:I64 a.i) (hb:I64 b.i) (hq:(a.ok && b.ok)=true) (hs:decide (0 ≤ Lib.indexByte [43,45,42,47,37] c)=true)
  (h0:(a.k != 0)=true) (h0':(a.k != 2)=false) (h1:(b.k != 0)=true) (h1':(b.k != 2)=false) (hnull:(a.k == 0 || b.k == 0)=false) (n:Int) (hr:∀ W,Calls Tryz.prog 108 #[.string ⟨#[c]⟩,.int .i64 a.i,.int .i64 b.i] W (zx (.tuple #[.int .i64 n,.int .i64 0]) W)) :
  Calls Tryz.prog 78 #[.string ⟨#[c]⟩,a.val,b.val] w (zx (.tuple #[(GV.num n).val,.int .i64 0]) w):=by
 have hc:=qf a b ha hb _ hq
 have hk:=fun W=>Tryz.strings_Contains_one ⟨#[43,45,42,47,37]⟩ c W
 simp only [hs] at hk
 have hn:=jD a b _ hnull
 have hnum:=vW n
 clear hnull
 unfold GV.val
 clear hq ha hb hs
 go_enter Tryz.func78,Tryz.ntmps78
 go_wp2_with fail
 refine (hc _ _ (VS.made [a,b] (by simp) rfl rfl (by simp))).mono ?_
 rintro e w1 ⟨rfl,hb1⟩
 have r0:=za hb1 (a:=⟨w.heap.size + 1 + 1,0,none⟩) (v:=.int .i64 0) (by simp [go_sem])
 have r1:=za hb1 (a:=⟨w.heap.size + 1 + 1,1,none⟩) (v:=.int .i64 0) (by simp [go_sem])
 have r2:=za hb1 (a:=⟨w.heap.size + 1 + 1,2,none⟩) (v:=.string ⟨#[]⟩) (by simp [go_sem])
 have hz0:w.heap.size < w1.heap.size:=by have:=hb1.size;simp at this;omega
 have hz1:w.heap.size + 1 < w1.heap.size:=by have:=hb1.size;simp at this;omega
 have hz2:w.heap.size + 1 + 1 < w1.heap.size:=by have:=hb1.size;simp at this;omega
 obtain ⟨hc1,hf1⟩:=zK hb1
 have hB:=later (w:=w) (by go_grown) hb1
 go_wp2_with fail
 refine (hk _).mono ?_
 rintro e w2 ⟨rfl,hw⟩
 obtain rfl:w1=w2:=hw.symm
 have i0:∀ W,(Instr.index 159 (.agg #[.int .i64 a.k,.int .i64 a.i,.string a.s,.int .i64 b.k,.int .i64 b.i,.string b.s]) (.int .i64 0)).run Tryz.prog W = .ok (.agg #[.int .i64 a.k,.int .i64 a.i,.string a.s]) W:=fun _=>by kernel_rfl
 have i1:∀ W,(Instr.index 159 (.agg #[.int .i64 a.k,.int .i64 a.i,.string a.s,.int .i64 b.k,.int .i64 b.i,.string b.s]) (.int .i64 1)).run Tryz.prog W = .ok (.agg #[.int .i64 b.k,.int .i64 b.i,.string b.s]) W:=fun _=>by kernel_rfl
 go_wp2_with fail
 refine wp_loop_rounds 3 ?_
 repeat any_goals (rw [rounds_succ];go_wp2_with fail)
 refine (hn _ _ (VS.made [a,b] (by first | (with_reducible rfl) | simp | simp [go_sem]) rfl rfl (by simp))).mono ?_
 rintro e w3 ⟨rfl,hb3⟩
 have q0:=za hb3 (zc (zc (zc r0)))
 have q1:=za hb3 (zc (zc (zc r1)))
 have q2:=za hb3 (zc (zc (zc r2)))
 have ai:=za hb3 (zc (zc (zc (za hb1 (a:=⟨w.heap.size,1,none⟩) (v:=.int .i64 a.i) (by simp [go_sem])))))
 have bi:=za hb3 (zc (zc (zc (za hb1 (a:=⟨w.heap.size + 1,1,none⟩) (v:=.int .i64 b.i) (by simp [go_sem])))))
 have fz:=zK hb3
 have hB3:=later (w:=w) (by go_grown) hb3
 have hz30:w.heap.size < w3.heap.size:=by have:=hb3.size;simp at this;omega
 have hz31:w.heap.size + 1 < w3.heap.size:=by have:=hb3.size;simp at this;omega
 have hz32:w.heap.size + 1 + 1 < w3.heap.size:=by have:=hb3.size;simp at this;omega
 have f0:w3.frozen? ⟨w.heap.size + 1 + 1,0,none⟩=false:=by rw [fz.2 _ _ (by simp;omega)];simp [go_sem, *]
 have f1:w3.frozen? ⟨w.heap.size + 1 + 1,1,none⟩=false:=by rw [fz.2 _ _ (by simp;omega)];simp [go_sem, *]
 have f2:w3.frozen? ⟨w.heap.size + 1 + 1,2,none⟩=false:=by rw [fz.2 _ _ (by simp;omega)];simp [go_sem, *]
 clear hc1 hf1 fz r0 r1 r2 hB hz0 hz1 hz2 i0 i1 hc hk
 go_wp2_with fail
 refine (hr _).mono ?_
 rintro e w4 ⟨rfl,hb4⟩
 have p0:=za hb4 q0
 have p1:=za hb4 q1
 have p2:=za hb4 q2
 have g0:w4.frozen? ⟨w.heap.size + 1 + 1,0,none⟩=false:=by rw [(zK hb4).2 _ _ hz32];exact f0
 have g1:w4.frozen? ⟨w.heap.size + 1 + 1,1,none⟩=false:=by rw [(zK hb4).2 _ _ hz32];exact f1
 have g2:w4.frozen? ⟨w.heap.size + 1 + 1,2,none⟩=false:=by rw [(zK hb4).2 _ _ hz32];exact f2
 have hB4:=later hB3 hb4
 have hz42:w.heap.size + 1 + 1 < w4.heap.size:=by have:=hb4.size;omega
 clear q0 q1 q2 f0 f1 f2 ai bi hB3 hz30 hz31 hz32
 go_wp2_with fail
 refine (hnum _).mono ?_
 rintro e w5 ⟨rfl,hb5⟩
 have o0:=za hb5 p0
 have o1:=za hb5 p1
 have o2:=za hb5 p2
 have e0:w5.frozen? ⟨w.heap.size + 1 + 1,0,none⟩=false:=by rw [(zK hb5).2 _ _ hz42];exact g0
 have e1:w5.frozen? ⟨w.heap.size + 1 + 1,1,none⟩=false:=by rw [(zK hb5).2 _ _ hz42];exact g1
 have e2:w5.frozen? ⟨w.heap.size + 1 + 1,2,none⟩=false:=by rw [(zK hb5).2 _ _ hz42];exact g2
 have hB5:=later hB4 hb5
 clear p0 p1 p2 g0 g1 g2 hB4 hz42
 unfold GV.val GV.num
 go_wp2
 refine bodyPost_ret (zl rfl rfl (by first | with_reducible exact zj o0 o1 o2 | with_reducible exact zb (zj o0 o1 o2) | with_reducible exact zb (zb (zj o0 o1 o2)) | with_reducible exact zb (zb (zb (zj o0 o1 o2))) | with_reducible exact zb (zb (zb (zb (zj o0 o1 o2))))) (Tryz.isAgg26 _) (Tryz.sizeOf26 _)) rfl ?_
 exact zx.mk rfl (by go_grown)
theorem Y7 (c:UInt8):decide (0 ≤ Lib.indexByte [43,45,42,47,37] c)=ZP.contains [c]:=by
 have h:∀ n:Fin 256,decide (0 ≤ Lib.indexByte [43,45,42,47,37] (UInt8.ofFin n))=ZP.contains [UInt8.ofFin n]:=by decide +kernel
 exact h c.toFin
theorem one_byte (op:ByteArray) (h:op.size=1):∃ c,op=⟨#[c]⟩ ∧ op.toList=[c]:=by
 obtain ⟨⟨l⟩⟩:=op
 match l,h with
 | [c],_=>exact ⟨c,rfl,by rw [Go.ByteArray.toList_eq]⟩
theorem zfX (l:List UInt8) (h:ZP.contains l=true):l.length=1:=by
 simp only [ZP,List.contains_cons,Bool.or_eq_true,beq_iff_eq,List.contains_nil,Bool.false_eq_true,or_false] at h
 rcases h with h | h | h | h | h <;> rw [h] <;> rfl
theorem jI (op:ByteArray) (a b:GV) (w:World) (ha:I64 a.i) (hb:I64 b.i) :
  Calls Tryz.prog 78 #[.string op,a.val,b.val] w (zx (.tuple #[(k9 op.toList a b).1.val,.int .i64 (k9 op.toList a b).2]) w):=by
 unfold k9
 cases hq:(a.ok && b.ok) with
 | false=>exact zeA op a b w ha hb hq
 | true =>
  by_cases hl:op.size=1
  ·obtain ⟨c,rfl,hc⟩:=one_byte op hl
   rw [hc]
   have hi:=Y7 c
   cases hs:ZP.contains [c] with
   | false=>rw [hs] at hi;exact zdt c a b w ha hb hq hi
   | true =>
    rw [hs] at hi
    cases h0:(a.k != 0) with
    | true =>
     cases h2:(a.k != 2) with
     | true=>exact YB c a b w ha hb hq hi h0 h2
     | false =>
      cases h1:(b.k != 0) with
      | true =>
       cases h3:(b.k != 2) with
       | true=>exact WL c a b w ha hb hq hi h0 h2 h1 h3
       | false =>
        have hn:(a.k == 0 || b.k == 0)=false:=by
         rw [bne,Bool.not_eq_true'] at h0 h1
         rw [h0,h1];rfl
        have hr:=fun W=>zcd ⟨#[c]⟩ a.i b.i W (by rw [hc];exact hs) ha hb
        rw [hc] at hr
        rw [hn]
        cases he:((zm [c] a.i b.i).2 != 0) with
        | true=>exact zfy c a b w ha hb hq hi h0 h2 h1 h3 hn _ _ hr he
        | false =>
         have he':(zm [c] a.i b.i).2=0:=by simpa using he
         rw [he'] at hr
         exact zh5 c a b w ha hb hq hi h0 h2 h1 h3 hn _ hr
      | false =>
       have hn:(a.k == 0 || b.k == 0)=true:=by
        rw [bne,Bool.not_eq_false'] at h1
        rw [h1,Bool.or_true]
       rw [hn]
       exact Yn c a b w ha hb hq hi h0 h2 h1 hn
    | false =>
     have hn:(a.k == 0 || b.k == 0)=true:=by
      rw [bne,Bool.not_eq_false'] at h0
      rw [h0,Bool.true_or]
     cases h1:(b.k != 0) with
     | true =>
      cases h3:(b.k != 2) with
      | true=>exact WV c a b w ha hb hq hi h0 h1 h3
      | false=>rw [hn];exact zao c a b w ha hb hq hi h0 h1 h3 hn
     | false=>rw [hn];exact zaX c a b w ha hb hq hi h0 h1 hn
  ·have hs:ZP.contains op.toList=false:=by
    cases h:ZP.contains op.toList with
    | false=>rfl
    | true =>
     have:=zfX _ h
     rw [Go.ByteArray.toList_eq] at this
     exact absurd this hl
   rw [hs]
   exact zeJ op a b w ha hb hq (by rw [bne_iff_ne];omega)
end Go.Proofs.YtifdakibkadfiaaGreatDoor
end
section
namespace Go.Proofs.YtifdakibkadfiaaGreatDoor
open Go.RowKit Go.Shelf Go
theorem xN (v:GV) (w:World) (hv:I64 v.i) :
  Calls Tryz.prog 133 #[v.val] w (zx (.tuple #[(k9 [45] (GV.num 0) v).1.val,.int .i64 (k9 [45] (GV.num 0) v).2]) w):=by
 have hc:=fun W=>jI ⟨#[45]⟩ (GV.num 0) v W (by unfold GV.num I64;simp) hv
 have hn:=vW 0
 rw [show (⟨#[45]⟩:ByteArray).toList=[45] from by rw [Go.ByteArray.toList_eq]] at hc
 clear hv
 generalize k9 [45] (GV.num 0) v=p at *
 obtain ⟨r,er⟩:=p
 unfold GV.val at *
 go_enter Tryz.func133,Tryz.ntmps133
 go_wp2_with fail
 refine qq 5 (by kernel_rfl) (by kernel_rfl) (by kernel_rfl) ?_
 simp only [List.take_succ_cons,List.take_zero,List.drop_succ_cons,List.drop_zero]
 repeat (go_big_quiet_step (first | exact Calls.kQ (hn _) (fun _ _ h=>h) | exact Calls.kQ (hc _) (fun _ _ h=>h)))
 refine wpQuiet_nil ?_
 rintro w1 ⟨u,rfl⟩
 have hb1:=qO _ u
 generalize kG _ u=w1 at *
 have r0:=za hb1 (a:=⟨w.heap.size + 1,0,none⟩) (v:=.int .i64 0) (by simp [go_sem])
 have r1:=za hb1 (a:=⟨w.heap.size + 1,1,none⟩) (v:=.int .i64 0) (by simp [go_sem])
 have r2:=za hb1 (a:=⟨w.heap.size + 1,2,none⟩) (v:=.string ⟨#[]⟩) (by simp [go_sem])
 have hz0:w.heap.size + 1 < w1.heap.size:=by have:=hb1.size;simp at this;omega
 obtain ⟨hc1,hf1⟩:=zK hb1
 have hB:=later (w:=w) (by go_grown) hb1
 go_wp2
 refine bodyPost_ret (zl rfl rfl (by first | with_reducible exact zj r0 r1 r2) (Tryz.isAgg26 _) (Tryz.sizeOf26 _)) rfl ?_
 exact zx.mk rfl (by go_grown)
end Go.Proofs.YtifdakibkadfiaaGreatDoor
end
