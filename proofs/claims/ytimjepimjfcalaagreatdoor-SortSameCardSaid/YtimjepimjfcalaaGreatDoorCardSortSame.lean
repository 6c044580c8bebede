/-  SortSame: the card. For any arguments the law answers true, and the arguments read as they did. Conditions: none of our own. -/
import Derived.Test.YtimjepimjfcalaaGreatDoorMw8
import Derived.Test.YtimjepimjfcalaaGreatDoorMc1
import Derived.Test.YtimjepimjfcalaaGreatDoorCards
import Derived.Test.YtimjepimjfcalaaGreatDoorTie
import Derived.ProofKit
import Derived.Deep.DeepHandedRow
import Derived.Lay
set_option linter.all false
set_option maxRecDepth 100000
set_option maxHeartbeats 8000000
namespace Go.Proofs.YtimjepimjfcalaaGreatDoor.sortSame
open Go.ChangeShapes Go.WideShapes Go.ChangeAt Go.RowKit
theorem own:ownKnob Tryz.prog.godebug=none:=by kernel_rfl
theorem laidOut:laidOutB Tryz.prog=true:=by kernel_rfl
abbrev plainTs:List TypeId:=[3,2,9,48,38,52,50,22,4,55,23]
theorem plainTs1:Go.Ev.plainB Tryz.prog plainTs=true:=by kernel_rfl
theorem plainTs2:Go.Ev.scalarOne Tryz.prog plainTs=true:=by kernel_rfl
theorem plainTs3:Go.Ev.cellsPos Tryz.prog plainTs=true:=by kernel_rfl
theorem contract (H:Type) (enc:TypeId × Value → H) (W:World) (base:Nat) (args:Array Value) (ds gs:List (DataW H)) (before:List MemPlace)
  (hval:∀ (j:Nat) t v,Tryz.f5.params[j]?=some t → args[j]?=some v → Value.okWide Tryz.prog W .any base t v)
  (hW:DataW.Whole enc Tryz.prog Tryz.f5.params.toList Rows.sortSameSpec.vars false W args.toList ds gs before)
  (hsz:(DataW.weightsEach Tryz.prog (Tryz.f5.params.toList ++ (OpenSpec.ofChange Rows.sortSameSpec).bare.plain.varTypes Tryz.prog) (ds ++ gs)).all (· ≤ reachBytes)=true)
  (hL:laidMetH Tryz.prog Rows.sortSameRow.laid W) (hsh:W.ShapedOpen Tryz.prog) :
  Calls Tryz.prog 5 args W fun e W'=>∃ v,e = .returned v ∧ Rows.sortSameSpec.post enc Tryz.prog Tryz.f5 false true false false W args v W':=by
 have hW':=hW
 obtain ⟨p,q,hA0,hV,rfl,hfz,hnd⟩:=hW
 have hA:DataW.TrodAll enc Tryz.prog W 0 (fun _=>true) true Tryz.f5.params.toList args.toList ds p:=hA0
 rw [Tryz.params5] at hA hval hsz
 obtain ⟨v0,vs0,d0,ds0,p0,q0,hargs,rfl,rfl,h0,r0⟩:=trodAll_cons hA
 obtain ⟨v1,vs1,d1,ds1,p1,q1,rfl,rfl,rfl,h1,r1⟩:=trodAll_cons r0
 obtain ⟨v2,vs2,d2,ds2,p2,q2,rfl,rfl,rfl,h2,r2⟩:=trodAll_cons r1
 obtain ⟨v3,vs3,d3,ds3,p3,q3,rfl,rfl,rfl,h3,r3⟩:=trodAll_cons r2
 obtain ⟨v4,vs4,d4,ds4,p4,q4,rfl,rfl,rfl,h4,r4⟩:=trodAll_cons r3
 obtain ⟨rfl,rfl,rfl⟩:=trodAll_nil r4
 obtain rfl:args = #[v0,v1,v2,v3,v4]:=by cases args;simp_all
 obtain ⟨rfl,rfl⟩:=trodVars_none hV
 clear hA0
 simp only [List.append_nil] at hW'
 have k0:=h0
 have k1:=h1
 have k2:=h2
 have k3:=h3
 have k4:=h4
 obtain ⟨us0,u0,c0⟩:=Go.Ev.arg_any plainTs1 plainTs2 plainTs3 (by kernel_rfl) h0 (fun n hn=>by simpa using List.all_eq_true.1 hsz n (DataW.weights_mem_each (j:=0) (t:=22) (d:=d0) rfl rfl n hn))
 obtain ⟨a0,rfl,i0⟩:=Go.Ev.Wt.rows u0
 obtain ⟨_,e0,x0⟩:=Go.Ev.arg_slice Tryz.underlying22 (hval 0 22 v0 rfl rfl) c0
 cases e0
 obtain ⟨us1,u1,c1⟩:=Go.Ev.arg_any plainTs1 plainTs2 plainTs3 (by kernel_rfl) h1 (fun n hn=>by simpa using List.all_eq_true.1 hsz n (DataW.weights_mem_each (j:=1) (t:=23) (d:=d1) rfl rfl n hn))
 obtain ⟨a1,rfl,i1⟩:=Go.Ev.Wt.keys u1
 obtain ⟨_,e1,x1⟩:=Go.Ev.arg_slice Tryz.underlying23 (hval 1 23 v1 rfl rfl) c1
 cases e1
 obtain ⟨a2,rfl,rfl,rfl,w2⟩:=open_int Tryz.underlying3 (hval 2 3 v2 rfl rfl) h2
 have i2:=Go.Ev.I64_of_wf w2
 obtain ⟨a3,rfl,rfl,rfl,w3⟩:=open_int Tryz.underlying3 (hval 3 3 v3 rfl rfl) h3
 have i3:=Go.Ev.I64_of_wf w3
 obtain ⟨a4,rfl,rfl,rfl,w4⟩:=open_int Tryz.underlying3 (hval 4 3 v4 rfl rfl) h4
 have i4:=Go.Ev.I64_of_wf w4
 have hlt:∀ x ∈ (p0 ++ p1 ++ ([]:List MemPlace) ++ ([]:List MemPlace) ++ ([]:List MemPlace)),x.block < W.heap.size:=fun x hx=>hW'.lt x (by simpa [List.append_assoc] using hx)
 refine (Go.Ev.Good.enter (Go.Ev.sortSame_good a0 a1 a2 a3 a4 i2 i3 i4 (fun r hr v hv=>⟨(i0 r hr v hv).i,Nat.le_trans (i0 r hr v hv).s (by decide)⟩) (fun k hk=>(i1 k hk).imp fun x h=>h.i)) Tryz.func5 rfl rfl (w:=W) (vs:=[v0,v1,.int .i64 a2,.int .i64 a3,.int .i64 a4]) (fun b=>b < W.heap.size) (fun b hb=>hb) (Go.Ev.globs_max (Go.Ev.someMax_shaped hsh)) rfl rfl ?_).mono fun e W' he=>?_
 ·intro i h1 h2
  match i,h1,h2 with
  | 0,_,_=>exact .c x0
  | 1,_,_=>exact .c x1
  | 2,_,_=>exact .c (.int _ _)
  | 3,_,_=>exact .c (.int _ _)
  | 4,_,_=>exact .c (.int _ _)
 obtain ⟨v,rfl,⟨N',ρ,hr⟩,hg⟩:=he
 obtain rfl:v = .bool true:=by
  cases hr with
  | c h=>cases h;rfl
 have hin:∀ {l:List MemPlace},(∀ x,x ∈ l → x ∈ (p0 ++ p1 ++ ([]:List MemPlace) ++ ([]:List MemPlace) ++ ([]:List MemPlace))) → ∀ x,x ∈ l → x.block < W.heap.size:=fun h x hx=>hlt x (h x hx)
 exact ⟨_,rfl,_,_,_,[],_,[],hW',trodAll_mk1 (shut_bool Tryz.underlying4 _),(trodAll_cons_mk (Below.trod laidOut (by kernel_rfl) (of_decide_eq_true (by kernel_rfl)) k0 hg (hin fun x hx=>by simp [hx])) (trodAll_cons_mk (Below.trod laidOut (by kernel_rfl) (of_decide_eq_true (by kernel_rfl)) k1 hg (hin fun x hx=>by simp [hx])) (trodAll_cons_mk (shut_int Tryz.underlying3 w2) (trodAll_cons_mk (shut_int Tryz.underlying3 w3) (trodAll_cons_mk (shut_int Tryz.underlying3 w4) trodAll_mk0))))),rfl,hg.frame _,fun h=>by cases h⟩
noncomputable def laidWorld (os:Os):World:=World.laidAll Tryz.prog os Rows.sortSameRow.laid
def wargs:Array Value:=#[.slice none 0 0,.slice none 0 0,.int .i64 0,.int .i64 0,.int .i64 0]
theorem laid_met (os:Os):laidMetH Tryz.prog Rows.sortSameRow.laid ((laidWorld os).forCall (fun _ _=>0) ⟨#[],wargs,[]⟩).memory:=by
 rw [MakeChecks.laidMetH_plain _ _ _ (by kernel_rfl)]
 exact laidMet_laidAll _ (by kernel_rfl) (by kernel_rfl)
theorem reads (os:Os) {H:Type} (enc:TypeId × Value → H):∃ places,DataW.whole enc Tryz.prog ((laidWorld os).forCall (fun _ _=>0) ⟨#[],wargs,[]⟩).memory Tryz.f5.params.toList Rows.sortSameSpec.vars false wargs.toList 8=some ([.nil,.nil,.lit (.int .i64 0),.lit (.int .i64 0),.lit (.int .i64 0)],[],places):=
 ⟨[],by kernel_rfl⟩
theorem witness (os:Os) (H:Type) (enc:TypeId × Value → H):∃ (w:World) (tape:Tape) (i:Input),w.os=os ∧ (w.forCall tape i).Shaped Tryz.prog ∧ i.vars=[] ∧ Input.okWide Tryz.prog (w.forCall tape i) .any w.heap.size 5 i ∧
   (OpenSpec.ofChange Rows.sortSameSpec).preRow enc Tryz.prog Tryz.f5 Rows.sortSameRow.domain false Rows.sortSameRow.laid (w.forCall tape i).memory i.args ∧ ({}:Assume).holds Tryz.prog (lone (Frame.enter Tryz.prog 5 i.args .normal) [] (w.forCall tape i)):=by
 obtain ⟨places,hx⟩:=reads os enc
 exact ⟨laidWorld os,fun _ _=>0,⟨#[],wargs,[]⟩,World.laidAll_os _ _ _,World.shaped_of_ZipB (by kernel_rfl) (by kernel_rfl),rfl,(Input.okWide_of_okWideB (by kernel_rfl)).2,
  OpenSpec.preRow_of_cond 8 hx (by kernel_rfl) (fun k hk=>by cases hk) (by kernel_rfl) (laid_met os),by
   simp only [Assume.holds]
   exact ⟨by simp,by simp,by simp,by simp,by simp⟩⟩
theorem lifted (os:Os) (started:os.Started) (H:Type) (enc:TypeId × Value → H) (F:Stop.Interp) :
  ReturnsInHanded {} Tryz.checked os 5 .any ((OpenSpec.ofChange Rows.sortSameSpec).preRow enc Tryz.prog Tryz.f5 Rows.sortSameRow.domain false Rows.sortSameRow.laid) (((OpenSpec.ofChange Rows.sortSameSpec).at F).post enc Tryz.prog Tryz.f5 false true false false):=by
 refine returnsInHanded_of_row (C:=Tryz.checked) (s:=OpenSpec.ofChange Rows.sortSameSpec) own started (by kernel_rfl) Tryz.func5 (witness os H enc) ?_
 intro W base args ds gs before hval hW _ _ hsz hL hsh _
 exact contract H enc W base args ds gs before hval hW hsz hL hsh
theorem said:Rows.SortSameSaid:=
 OpenClaim.holds_of_cond 5 Tryz.f5 rfl rfl rfl rfl rfl rfl rfl ⟨rfl,rfl,rfl,rfl,rfl⟩ rfl rfl rfl rfl rfl (by kernel_rfl) Tryz.func5 (by kernel_rfl)
  (of_decide_eq_true (by kernel_rfl)) (by unfold Func.isWrapper;first | (rw [if_pos (by decide +kernel)];kernel_rfl) | (rw [if_neg (by decide +kernel)];exact ⟨rfl,rfl⟩))
  (fun os started H enc _ F=>by rw [OpenClaim.pre_eq_preRow];exact lifted os started H enc F)
theorem plain (f:FuncId) (fn:Func) (hf:Tryz.pinned.checked.prog.funcNamed "boscage/boscagelaw16.SortSame"=some f) (hfn:Tryz.pinned.checked.prog.funcs[f]?=some fn) :
  false=Tryz.pinned.checked.prog.looks [] ∧ ∀ (j:Nat) t,fn.params[j]?=some t → Tryz.pinned.checked.prog.wantsStandIn t=false:=by
 obtain rfl:f=5:=Option.some.inj ((show Tryz.prog.funcNamed "boscage/boscagelaw16.SortSame"=some 5 by kernel_rfl).symm.trans hf) |>.symm
 obtain rfl:fn=Tryz.f5:=(Option.some.inj (Tryz.func5.symm.trans hfn)).symm
 refine ⟨by kernel_rfl,fun j t ht=>?_⟩
 rw [Tryz.params5] at ht
 have hm:t ∈ [22,23,3,3,3]:=by simpa using Array.mem_of_getElem? ht
 have hall:([22,23,3,3,3].all fun u=>!Tryz.prog.wantsStandIn u)=true:=by kernel_rfl
 exact (show Tryz.prog.wantsStandIn t=false by simpa using List.all_eq_true.1 hall t hm)
theorem card:Rows.SortSameCardSaid:=
 Claim7.holds_tied_plain_at .later [] _ _ _ _ said (fun _ h=>by cases h) (by kernel_rfl) (fun _ h=>by cases h) sortSame_row_tie rfl ⟨rfl,rfl⟩ (by kernel_rfl) rfl plain (by kernel_rfl)
#print axioms card
end Go.Proofs.YtimjepimjfcalaaGreatDoor.sortSame
