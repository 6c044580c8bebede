/-  RowsJoins: the card. For any arguments the law answers true, and the arguments read as they did. Conditions: none of our own. -/
import Derived.Test.YtifdakibkadfiaaGreatDoorMy5
import Derived.Test.YtifdakibkadfiaaGreatDoorMy3
import Derived.Test.YtifdakibkadfiaaGreatDoorMc2
import Derived.Test.YtifdakibkadfiaaGreatDoorCards
import Derived.Test.YtifdakibkadfiaaGreatDoorTie
import Derived.ProofKit
import Derived.Deep.DeepHandedRow
import Derived.Lay
set_option linter.all false
set_option maxRecDepth 100000
set_option maxHeartbeats 8000000
namespace Go.Proofs.YtifdakibkadfiaaGreatDoor.rowsJoins
open Go.ChangeShapes Go.WideShapes Go.ChangeAt Go.RowKit
theorem own:ownKnob Tryz.prog.godebug=none:=by kernel_rfl
theorem laidOut:laidOutB Tryz.prog=true:=by kernel_rfl
abbrev plainTs:List TypeId:=[3,2,9,26,47,29,27,22,24]
theorem plainTs1:Go.Ev.zbC Tryz.prog plainTs=true:=by kernel_rfl
theorem plainTs2:Go.Ev.Xl Tryz.prog plainTs=true:=by kernel_rfl
theorem plainTs3:Go.Ev.zb6 Tryz.prog plainTs=true:=by kernel_rfl
theorem contract (H:Type) (enc:TypeId × Value → H) (W:World) (base:Nat) (args:Array Value) (ds gs:List (DataW H)) (before:List MemPlace)
  (hval:∀ (j:Nat) t v,Tryz.f3.params[j]?=some t → args[j]?=some v → Value.okWide Tryz.prog W .any base t v)
  (hW:DataW.Whole enc Tryz.prog Tryz.f3.params.toList Rows.rowsJoinsSpec.vars false W args.toList ds gs before)
  (hsz:(DataW.weightsEach Tryz.prog (Tryz.f3.params.toList ++ (OpenSpec.ofChange Rows.rowsJoinsSpec).bare.plain.varTypes Tryz.prog) (ds ++ gs)).all (· ≤ reachBytes)=true)
  (hL:laidMetH Tryz.prog Rows.rowsJoinsRow.laid W) (hsh:W.ShapedOpen Tryz.prog) :
  Calls Tryz.prog 3 args W fun e W'=>∃ v,e = .returned v ∧ Rows.rowsJoinsSpec.post enc Tryz.prog Tryz.f3 false true false false W args v W':=by
 have hW':=hW
 obtain ⟨p,q,hA0,hV,rfl,hfz,hnd⟩:=hW
 have hA:DataW.TrodAll enc Tryz.prog W 0 (fun _=>true) true Tryz.f3.params.toList args.toList ds p:=hA0
 rw [Tryz.params3] at hA hval hsz
 obtain ⟨v0,vs0,d0,ds0,p0,q0,hargs,rfl,rfl,h0,r0⟩:=trodAll_cons hA
 obtain ⟨v1,vs1,d1,ds1,p1,q1,rfl,rfl,rfl,h1,r1⟩:=trodAll_cons r0
 obtain ⟨v2,vs2,d2,ds2,p2,q2,rfl,rfl,rfl,h2,r2⟩:=trodAll_cons r1
 obtain ⟨v3,vs3,d3,ds3,p3,q3,rfl,rfl,rfl,h3,r3⟩:=trodAll_cons r2
 obtain ⟨rfl,rfl,rfl⟩:=trodAll_nil r3
 obtain rfl:args = #[v0,v1,v2,v3]:=by cases args;simp_all
 obtain ⟨rfl,rfl⟩:=trodVars_none hV
 clear hA0
 simp only [List.append_nil] at hW'
 have k0:=h0
 have k1:=h1
 have k2:=h2
 have k3:=h3
 obtain ⟨us0,u0,c0⟩:=Go.Ev.Wj plainTs1 plainTs2 plainTs3 (by kernel_rfl) h0 (fun n hn=>by simpa using List.all_eq_true.1 hsz n (DataW.weights_mem_each (j:=0) (t:=9) (d:=d0) rfl rfl n hn))
 obtain ⟨a0,rfl,i0⟩:=Go.Ev.Wt.ofStr Tryz.underlying9 u0
 obtain ⟨_,e0,x0⟩:=Go.Ev.arg_str Tryz.underlying9 (hval 0 9 v0 rfl rfl) c0
 cases e0
 obtain ⟨us1,u1,c1⟩:=Go.Ev.Wj plainTs1 plainTs2 plainTs3 (by kernel_rfl) h1 (fun n hn=>by simpa using List.all_eq_true.1 hsz n (DataW.weights_mem_each (j:=1) (t:=24) (d:=d1) rfl rfl n hn))
 obtain ⟨a1,b1,rfl,i1,j1⟩:=Go.Ev.Wt.table u1
 have x1:=Go.Ev.Z3 Tryz.underlying24 (hval 1 24 v1 rfl rfl) c1 (fun _=>default)
 obtain ⟨us2,u2,c2⟩:=Go.Ev.Wj plainTs1 plainTs2 plainTs3 (by kernel_rfl) h2 (fun n hn=>by simpa using List.all_eq_true.1 hsz n (DataW.weights_mem_each (j:=2) (t:=24) (d:=d2) rfl rfl n hn))
 obtain ⟨a2,b2,rfl,i2,j2⟩:=Go.Ev.Wt.table u2
 have x2:=Go.Ev.Z3 Tryz.underlying24 (hval 2 24 v2 rfl rfl) c2 (fun _=>default)
 obtain ⟨us3,u3,c3⟩:=Go.Ev.Wj plainTs1 plainTs2 plainTs3 (by kernel_rfl) h3 (fun n hn=>by simpa using List.all_eq_true.1 hsz n (DataW.weights_mem_each (j:=3) (t:=29) (d:=d3) rfl rfl n hn))
 obtain ⟨a3,rfl,i3⟩:=Go.Ev.Wt.expr u3
 have x3:=Go.Ev.Z3 Tryz.underlying29 (hval 3 29 v3 rfl rfl) c3 (fun _=>default)
 rw [Go.Ev.Expr.Yc] at x3
 have hlt:∀ x ∈ (p0 ++ p1 ++ p2 ++ p3),x.block < W.heap.size:=fun x hx=>hW'.lt x (by simpa [List.append_assoc] using hx)
 refine (Go.Ev.Good.enter (Go.Ev.Vz a0 a1 a2 b1 b2 a3 Go.Ev.zfF i1 (fun r hr v hv=>(j1 r hr v hv).i) (fun r hr v hv=>Nat.le_trans (j1 r hr v hv).s (by decide)) i2 (fun r hr v hv=>(j2 r hr v hv).i) (fun r hr v hv=>Nat.le_trans (j2 r hr v hv).s (by decide)) (i3.imp fun x h=>h.i)) Tryz.func3 rfl rfl (w:=W) (vs:=[v0,v1,v2,v3]) (fun b=>b < W.heap.size) (fun b hb=>hb) (Go.Ev.zgP (Go.Ev.VI hsh)) rfl rfl ?_).mono fun e W' he=>?_
 ·intro i h1 h2
  match i,h1,h2 with
  | 0,_,_=>exact .c x0
  | 1,_,_=>exact x1
  | 2,_,_=>exact x2
  | 3,_,_=>exact x3
 obtain ⟨v,rfl,⟨N',ρ,hr⟩,hg⟩:=he
 obtain rfl:v = .bool true:=by
  cases hr with
  | c h=>cases h;rfl
 have hin:∀ {l:List MemPlace},(∀ x,x ∈ l → x ∈ (p0 ++ p1 ++ p2 ++ p3)) → ∀ x,x ∈ l → x.block < W.heap.size:=fun h x hx=>hlt x (h x hx)
 exact ⟨_,rfl,_,_,_,[],_,[],hW',trodAll_mk1 (shut_bool Tryz.underlying4 _),(trodAll_cons_mk (Below.trod laidOut (by kernel_rfl) (of_decide_eq_true (by kernel_rfl)) k0 hg (hin fun x hx=>by simp [hx])) (trodAll_cons_mk (Below.trod laidOut (by kernel_rfl) (of_decide_eq_true (by kernel_rfl)) k1 hg (hin fun x hx=>by simp [hx])) (trodAll_cons_mk (Below.trod laidOut (by kernel_rfl) (of_decide_eq_true (by kernel_rfl)) k2 hg (hin fun x hx=>by simp [hx])) (trodAll_cons_mk (Below.trod laidOut (by kernel_rfl) (of_decide_eq_true (by kernel_rfl)) k3 hg (hin fun x hx=>by simp [hx])) trodAll_mk0)))),rfl,hg.frame _,fun h=>by cases h⟩
noncomputable def laidWorld (os:Os):World:=World.laidAll Tryz.prog os Rows.rowsJoinsRow.laid
def wargs:Array Value:=#[.string ⟨#[]⟩,.agg #[.int .i64 0,.slice none 0 0],.agg #[.int .i64 0,.slice none 0 0],.agg #[.string ⟨#[]⟩,.int .i64 0,.int .i64 0,.string ⟨#[]⟩,.string ⟨#[]⟩,.string ⟨#[]⟩,.slice none 0 0]]
theorem laid_met (os:Os):laidMetH Tryz.prog Rows.rowsJoinsRow.laid ((laidWorld os).forCall (fun _ _=>0) ⟨#[],wargs,[]⟩).memory:=by
 rw [MakeChecks.laidMetH_plain _ _ _ (by kernel_rfl)]
 exact laidMet_laidAll _ (by kernel_rfl) (by kernel_rfl)
theorem reads (os:Os) {H:Type} (enc:TypeId × Value → H):∃ places,DataW.whole enc Tryz.prog ((laidWorld os).forCall (fun _ _=>0) ⟨#[],wargs,[]⟩).memory Tryz.f3.params.toList Rows.rowsJoinsSpec.vars false wargs.toList 8=some ([.lit (.string []),.agg [.lit (.int .i64 0),.nil],.agg [.lit (.int .i64 0),.nil],.agg [.lit (.string []),.agg [.lit (.int .i64 0),.lit (.int .i64 0),.lit (.string [])],.lit (.string []),.lit (.string []),.nil]],[],places):=
 ⟨[],by kernel_rfl⟩
theorem witness (os:Os) (H:Type) (enc:TypeId × Value → H):∃ (w:World) (tape:Tape) (i:Input),w.os=os ∧ (w.forCall tape i).Shaped Tryz.prog ∧ i.vars=[] ∧ Input.okWide Tryz.prog (w.forCall tape i) .any w.heap.size 3 i ∧
   (OpenSpec.ofChange Rows.rowsJoinsSpec).preRow enc Tryz.prog Tryz.f3 Rows.rowsJoinsRow.domain false Rows.rowsJoinsRow.laid (w.forCall tape i).memory i.args ∧ ({}:Assume).holds Tryz.prog (lone (Frame.enter Tryz.prog 3 i.args .normal) [] (w.forCall tape i)):=by
 obtain ⟨places,hx⟩:=reads os enc
 exact ⟨laidWorld os,fun _ _=>0,⟨#[],wargs,[]⟩,World.laidAll_os _ _ _,World.shaped_of_ZipB (by kernel_rfl) (by kernel_rfl),rfl,(Input.okWide_of_okWideB (by kernel_rfl)).2,
  OpenSpec.preRow_of_cond 8 hx (by kernel_rfl) (fun k hk=>by cases hk) (by kernel_rfl) (laid_met os),by
   simp only [Assume.holds]
   exact ⟨by simp,by simp,by simp,by simp,by simp⟩⟩
theorem lifted (os:Os) (started:os.Started) (H:Type) (enc:TypeId × Value → H) (F:Stop.Interp) :
  ReturnsInHanded {} Tryz.checked os 3 .any ((OpenSpec.ofChange Rows.rowsJoinsSpec).preRow enc Tryz.prog Tryz.f3 Rows.rowsJoinsRow.domain false Rows.rowsJoinsRow.laid) (((OpenSpec.ofChange Rows.rowsJoinsSpec).at F).post enc Tryz.prog Tryz.f3 false true false false):=by
 refine returnsInHanded_of_row (C:=Tryz.checked) (s:=OpenSpec.ofChange Rows.rowsJoinsSpec) own started (by kernel_rfl) Tryz.func3 (witness os H enc) ?_
 intro W base args ds gs before hval hW _ _ hsz hL hsh _
 exact contract H enc W base args ds gs before hval hW hsz hL hsh
theorem said:Rows.RowsJoinsSaid:=
 OpenClaim.holds_of_cond 3 Tryz.f3 rfl rfl rfl rfl rfl rfl rfl ⟨rfl,rfl,rfl,rfl,rfl⟩ rfl rfl rfl rfl rfl (by kernel_rfl) Tryz.func3 (by kernel_rfl)
  (of_decide_eq_true (by kernel_rfl)) (by unfold Func.isWrapper;first | (rw [if_pos (by decide +kernel)];kernel_rfl) | (rw [if_neg (by decide +kernel)];exact ⟨rfl,rfl⟩))
  (fun os started H enc _ F=>by rw [OpenClaim.pre_eq_preRow];exact lifted os started H enc F)
theorem plain (f:FuncId) (fn:Func) (hf:Tryz.pinned.checked.prog.funcNamed "boscage/boscagelaw11.RowsJoins"=some f) (hfn:Tryz.pinned.checked.prog.funcs[f]?=some fn) :
  false=Tryz.pinned.checked.prog.looks [] ∧ ∀ (j:Nat) t,fn.params[j]?=some t → Tryz.pinned.checked.prog.wantsStandIn t=false:=by
 obtain rfl:f=3:=Option.some.inj ((show Tryz.prog.funcNamed "boscage/boscagelaw11.RowsJoins"=some 3 by kernel_rfl).symm.trans hf) |>.symm
 obtain rfl:fn=Tryz.f3:=(Option.some.inj (Tryz.func3.symm.trans hfn)).symm
 refine ⟨by kernel_rfl,fun j t ht=>?_⟩
 rw [Tryz.params3] at ht
 have hm:t ∈ [9,24,24,29]:=by simpa using Array.mem_of_getElem? ht
 have hall:([9,24,24,29].all fun u=>!Tryz.prog.wantsStandIn u)=true:=by kernel_rfl
 exact (show Tryz.prog.wantsStandIn t=false by simpa using List.all_eq_true.1 hall t hm)
theorem card:Rows.RowsJoinsCardSaid:=
 Claim7.holds_tied_plain_at .later [] _ _ _ _ said (fun _ h=>by cases h) (by kernel_rfl) (fun _ h=>by cases h) rowsJoins_row_tie rfl ⟨rfl,rfl⟩ (by kernel_rfl) rfl plain (by kernel_rfl)
#print axioms card
end Go.Proofs.YtifdakibkadfiaaGreatDoor.rowsJoins
