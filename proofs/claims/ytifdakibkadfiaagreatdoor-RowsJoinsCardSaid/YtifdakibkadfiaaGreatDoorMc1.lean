import Derived.Test.YtifdakibkadfiaaGreatDoorMs7
import Derived.Test.YtifdakibkadfiaaGreatDoorMr1
import Derived.Test.YtifdakibkadfiaaGreatDoorMe2
import Derived.Test.YtifdakibkadfiaaGreatDoorMk5
import Derived.Test.YtifdakibkadfiaaGreatDoorMg2
set_option linter.all false
set_option maxRecDepth 100000
set_option maxHeartbeats 8000000
section
open Go Go.Proofs Go.RowKit Go.ChangeShapes Go.WideShapes
namespace Go.Ev
theorem zgP {W:World} (hmax:Go.Proofs.YtifdakibkadfiaaGreatDoor.zY W):Qs W (fun b=>b < W.heap.size):=by
 refine ⟨fun g2 ds hgl=>by simp [qo.glob,seatGlobs] at hgl,fun g2 hg2=>by
  obtain rfl:g2=0:=by simpa [qo.ints,seatGlobs] using hg2
  obtain ⟨m,hm2⟩:=hmax
  refine ⟨?_,m,hm2⟩
  by_cases hlt:0 < W.heap.size
  ·exact hlt
  ·exfalso
   have:W.cell? ⟨0,0,none⟩=none:=by
    unfold World.cell?
    rw [Array.getElem?_eq_none (by omega)]
   rw [this] at hm2;cases hm2⟩
theorem VI {w:World} (h:w.ShapedOpen Tryz.prog):Go.Proofs.YtifdakibkadfiaaGreatDoor.zY w:=Go.Proofs.cell_of_shapedOpen_int (zero:=#[.int .i64 0]) (t:=3) h (of_decide_eq_true (by kernel_rfl)) (by kernel_rfl) rfl (by kernel_rfl) (by kernel_rfl) Tryz.underlying3
section
variable {H:Type} {enc:TypeId × Value → H} {P:Program} {W:World} {S:List TypeId} {t:TypeId}
def Xl (P:Program) (S:List TypeId):Bool:=S.all fun t=>match P.underlying t with | some (.int _) | some .bool | some .string | some (.slice _)=>P.cellsOf t == 1 | _=>true
def zb6 (P:Program) (S:List TypeId):Bool:=S.all fun t=>decide (0 < P.cellsOf t)
theorem Wj (hS:zbC P S=true) (hz:Xl P S=true) (hp:zb6 P S=true) (ht:S.contains t=true) {v:Value} {d:DataW H} {p:List MemPlace} {sp:Nat → Bool} {held:Bool} {base:Nat}
  (h:DataW.Trod enc P W base sp held t v d p) (hw:∀ n,n ∈ d.weights P t → n ≤ reachBytes):∃ us,Wt P t us ∧ x9 W us v.cells.toList:=by
 obtain ⟨fuel,hf⟩:=h
 exact zji hS hz hp fuel t _ (d,p) ht hw hf
theorem Z3 {fs:Array Field} {r:Reach} {b0:Nat} (hu:P.underlying t=some (.struct fs)) {v:Value} (hval:Value.okWide P W r b0 t v) {us:List CV} (hr:x9 W us v.cells.toList) (ρ:Nat → Pl):zo W (fun b=>b < W.heap.size) ρ (.agg (us.map .c)) v:=by
 obtain ⟨cs,rfl,_⟩:=okWide_struct hu hval
 have hl:us.length=cs.toList.length:=hr.1
 have:=zo.agg (w:=W) (N:=fun b=>b < W.heap.size) (ρ:=ρ) (us.map .c) cs.toList (by simpa using hl) fun i a b=>by
  have h1:i < us.length:=by simpa using a
  have:=hr.2 i h1 b
  simp only [List.getElem_map]
  exact .c this
 simpa using this
theorem Wt.ofInt {k:IntKind} (hu:P.underlying t=some (.int k)) {us:List CV} (h:Wt P t us):∃ n,us=[.int k n] ∧ (Lit.int k n).wf=true:=by
 cases h with
 | int h hw=>rw [hu] at h;cases h;exact ⟨_,rfl,hw⟩
 | bool h=>rw [hu] at h;cases h
 | str h=>rw [hu] at h;cases h
 | sl h=>rw [hu] at h;cases h
 | agg h=>rw [hu] at h;cases h
theorem Wt.ofStr (hu:P.underlying t=some .string) {us:List CV} (h:Wt P t us):∃ s,us=[.str s] ∧ s.size ≤ reachBytes:=by
 cases h with
 | int h hw=>rw [hu] at h;cases h
 | bool h=>rw [hu] at h;cases h
 | str h hs=>exact ⟨_,rfl,hs⟩
 | sl h=>rw [hu] at h;cases h
 | agg h=>rw [hu] at h;cases h
theorem Wt.zmy {e:TypeId} (hu:P.underlying t=some (.slice e)) {us:List CV} (h:Wt P t us):∃ xs,us=[.lst (P.cellsOf e) false xs] ∧ xs.length * P.bytesOf e ≤ reachBytes ∧ ∀ x,x ∈ xs → Wt P e x:=by
 cases h with
 | int h hw=>rw [hu] at h;cases h
 | bool h=>rw [hu] at h;cases h
 | str h=>rw [hu] at h;cases h
 | sl h hb hx=>rw [hu] at h;cases h;exact ⟨_,rfl,hb,hx⟩
 | agg h=>rw [hu] at h;cases h
theorem Wt.zke {fs:Array Field} (hu:P.underlying t=some (.struct fs)) {us:List CV} (h:Wt P t us):us.length=P.cellsOf t ∧ ∀ f,f ∈ fs.toList → Wt P f.type ((us.drop f.offset).take (P.cellsOf f.type)):=by
 cases h with
 | int h hw=>rw [hu] at h;cases h
 | bool h=>rw [hu] at h;cases h
 | str h=>rw [hu] at h;cases h
 | sl h=>rw [hu] at h;cases h
 | agg h hl hx=>rw [hu] at h;cases h;exact ⟨hl,hx⟩
end
theorem Kn {n:Int} (h:(Lit.int .i64 n).wf=true):I64 n:=by simpa [I64,Lit.wf,IntKind.min,IntKind.max,IntKind.signed,IntKind.bits] using h
structure Val.Wf (v:Val):Prop where
 k:I64 v.k
 i:I64 v.i
 s:v.s.size ≤ 140737488355328
theorem zhP {n:Nat} (h:n ≤ reachBytes):n ≤ 140737488355328:=Nat.le_trans h (by decide)
theorem JR:Tryz.prog.cellsOf 26=3:=by kernel_rfl
theorem zbf:Tryz.prog.cellsOf 3=1:=by kernel_rfl
theorem ziJ:Tryz.prog.cellsOf 2=1:=by kernel_rfl
theorem zbe:Tryz.prog.cellsOf 9=1:=by kernel_rfl
theorem Wt.val {us:List CV} (h:Wt Tryz.prog 26 us):∃ v:Val,us=v.cs ∧ v.Wf:=by
 obtain ⟨hl,hf⟩:=Wt.zke Tryz.underlying26 h
 rw [JR] at hl
 obtain ⟨a,b,c,rfl⟩:∃ a b c,us=[a,b,c]:=by
  match us,hl with
  | [a,b,c],_=>exact ⟨a,b,c,rfl⟩
 have h0:=hf _ (List.mem_cons_self ..)
 have h1:=hf _ (List.mem_cons_of_mem _ (List.mem_cons_self ..))
 have h2:=hf _ (List.mem_cons_of_mem _ (List.mem_cons_of_mem _ (List.mem_cons_self ..)))
 simp only [zbf,ziJ,zbe,List.drop_zero,List.drop_succ_cons,List.take_succ_cons,List.take_zero] at h0 h1 h2
 obtain ⟨k,e0,w0⟩:=Wt.ofInt Tryz.underlying3 h0
 obtain ⟨i,e1,w1⟩:=Wt.ofInt Tryz.underlying2 h1
 obtain ⟨s,e2,w2⟩:=Wt.ofStr Tryz.underlying9 h2
 cases e0;cases e1;cases e2
 exact ⟨⟨k,i,s⟩,rfl,Kn w0,Kn w1,zhP w2⟩
theorem j8 {α β:Type} {f:α → β} {p:α → Prop}:∀ {l:List β},(∀ x,x ∈ l → ∃ a,x=f a ∧ p a) → ∃ m:List α,l=m.map f ∧ ∀ a,a ∈ m → p a
 | [],_=>⟨[],rfl,fun a h=>by cases h⟩
 | x :: l,h=>by
  obtain ⟨a,rfl,ha⟩:=h x (by simp)
  obtain ⟨m,rfl,hm⟩:=j8 (l:=l) fun y hy=>h y (by simp [hy])
  exact ⟨a :: m,rfl,fun b hb=>by
   rcases List.mem_cons.1 hb with rfl | hb
   ·exact ha
   ·exact hm b hb⟩
theorem Wt.row {us:List CV} (h:Wt Tryz.prog 47 us):∃ r:List Val,us=[qk r] ∧ ∀ v,v ∈ r → v.Wf:=by
 obtain ⟨xs,rfl,_,hx⟩:=Wt.zmy Tryz.underlying47 h
 rw [JR]
 obtain ⟨r,rfl,hr⟩:=j8 (f:=Val.cs) (p:=Val.Wf) fun x hx'=>Wt.val (hx x hx')
 exact ⟨r,rfl,hr⟩
theorem K8:Tryz.prog.cellsOf 29=7:=by kernel_rfl
theorem zd6:Tryz.prog.cellsOf 27=1:=by kernel_rfl
theorem Wt.exprs {t:TypeId} {us:List CV} (h:Wt Tryz.prog t us):(t=29 → ∃ e:Expr,us=e.cs ∧ Expr.All (fun x=>x.v.Wf) e) ∧
  (t=27 → ∃ l:List Expr,us=[.lst 7 false (l.map Expr.cs)] ∧ ∀ e,e ∈ l → Expr.All (fun x=>x.v.Wf) e):=by
 induction h with
 | int h hw=>exact ⟨fun e=>(by subst e;rw [Tryz.underlying29] at h;cases h),fun e=>(by subst e;rw [Tryz.underlying27] at h;cases h)⟩
 | bool h=>exact ⟨fun e=>(by subst e;rw [Tryz.underlying29] at h;cases h),fun e=>(by subst e;rw [Tryz.underlying27] at h;cases h)⟩
 | str h=>exact ⟨fun e=>(by subst e;rw [Tryz.underlying29] at h;cases h),fun e=>(by subst e;rw [Tryz.underlying27] at h;cases h)⟩
 | sl h hb hx ih =>
  refine ⟨fun e=>(by subst e;rw [Tryz.underlying29] at h;cases h),fun e=>?_⟩
  subst e
  rw [Tryz.underlying27] at h
  cases h
  rw [K8]
  obtain ⟨l,rfl,hl⟩:=j8 (f:=Expr.cs) (p:=Expr.All (fun x=>x.v.Wf)) fun x hx'=>(ih x hx').1 rfl
  exact ⟨l,rfl,hl⟩
 | agg h hl hx ih =>
  refine ⟨fun e=>?_,fun e=>(by subst e;rw [Tryz.underlying27] at h;cases h)⟩
  subst e
  rw [Tryz.underlying29] at h
  cases h
  rename_i us
  rw [K8] at hl
  obtain ⟨a,b,c,d,e,f,g,rfl⟩:∃ a b c d e f g,us=[a,b,c,d,e,f,g]:=by
   match us,hl with
   | [a,b,c,d,e,f,g],_=>exact ⟨a,b,c,d,e,f,g,rfl⟩
  have h0:=hx _ (List.mem_cons_self ..)
  have h1:=hx _ (List.mem_cons_of_mem _ (List.mem_cons_self ..))
  have h2:=hx _ (List.mem_cons_of_mem _ (List.mem_cons_of_mem _ (List.mem_cons_self ..)))
  have h3:=hx _ (List.mem_cons_of_mem _ (List.mem_cons_of_mem _ (List.mem_cons_of_mem _ (List.mem_cons_self ..))))
  have h4:=(ih _ (List.mem_cons_of_mem _ (List.mem_cons_of_mem _ (List.mem_cons_of_mem _ (List.mem_cons_of_mem _ (List.mem_cons_self ..)))))).2 rfl
  simp only [JR,zbe,zd6,List.drop_zero,List.drop_succ_cons,List.take_succ_cons,List.take_zero] at h0 h1 h2 h3 h4
  obtain ⟨op,e0,_⟩:=Wt.ofStr Tryz.underlying9 h0
  obtain ⟨v,e1,wv⟩:=Wt.val h1
  obtain ⟨tb,e2,_⟩:=Wt.ofStr Tryz.underlying9 h2
  obtain ⟨nm,e3,_⟩:=Wt.ofStr Tryz.underlying9 h3
  obtain ⟨l,e4,hl4⟩:=h4
  cases e0;cases e2;cases e3;cases e4
  obtain ⟨rfl,rfl,rfl⟩:b = .int .i64 v.k ∧ c = .int .i64 v.i ∧ d = .str v.s:=by
   have:=e1
   unfold Val.cs at this
   simpa using this
  refine ⟨.mk op v tb nm l,?_,?_⟩
  ·rw [Expr.Yc];rfl
  ·rw [Expr.vu];exact ⟨wv,hl4⟩
theorem Wt.expr {us:List CV} (h:Wt Tryz.prog 29 us):∃ e:Expr,us=e.cs ∧ Expr.All (fun x=>x.v.Wf) e:=(Wt.exprs h).1 rfl
theorem Wt.ofBool {P:Program} {t:TypeId} (hu:P.underlying t=some .bool) {us:List CV} (h:Wt P t us):∃ b,us=[.bool b]:=by
 cases h with
 | int h hw=>rw [hu] at h;cases h
 | bool h=>exact ⟨_,rfl⟩
 | str h=>rw [hu] at h;cases h
 | sl h=>rw [hu] at h;cases h
 | agg h=>rw [hu] at h;cases h
theorem zhp:Tryz.prog.cellsOf 47=1:=by kernel_rfl
theorem zbS:Tryz.prog.cellsOf 60=8:=by kernel_rfl
theorem zg7:Tryz.prog.cellsOf 4=1:=by kernel_rfl
theorem Wt.rows {us:List CV} (h:Wt Tryz.prog 22 us):∃ l:List (List Val),us=[qD l] ∧ ∀ r,r ∈ l → ∀ v,v ∈ r → v.Wf:=by
 obtain ⟨xs,rfl,_,hx⟩:=Wt.zmy Tryz.underlying22 h
 rw [zhp]
 obtain ⟨l,rfl,hl⟩:=j8 (f:=fun r:List Val=>[qk r]) (p:=fun r=>∀ v,v ∈ r → v.Wf) fun x hx'=>Wt.row (hx x hx')
 exact ⟨l,rfl,hl⟩
theorem Wt.key {us:List CV} (h:Wt Tryz.prog 60 us):∃ k:Key,us=k.cs ∧ Expr.All (fun x=>x.v.Wf) k.e:=by
 obtain ⟨hl,hf⟩:=Wt.zke Tryz.underlying60 h
 rw [zbS] at hl
 obtain ⟨a,b,c,d,e,f,g,i,rfl⟩:∃ a b c d e f g i,us=[a,b,c,d,e,f,g,i]:=by
  match us,hl with
  | [a,b,c,d,e,f,g,i],_=>exact ⟨a,b,c,d,e,f,g,i,rfl⟩
 have h0:=hf _ (List.mem_cons_self ..)
 have h1:=hf _ (List.mem_cons_of_mem _ (List.mem_cons_self ..))
 simp only [K8,zg7,List.drop_zero,List.drop_succ_cons,List.take_succ_cons,List.take_zero] at h0 h1
 obtain ⟨x,e0,hx⟩:=Wt.expr h0
 obtain ⟨y,e1⟩:=Wt.ofBool Tryz.underlying4 h1
 rw [Expr.Yc] at e0
 cases e0;cases e1
 exact ⟨⟨x,y⟩,rfl,hx⟩
theorem Wt.keys {us:List CV} (h:Wt Tryz.prog 58 us):∃ l:List Key,us=[zmz l] ∧ ∀ k,k ∈ l → Expr.All (fun x=>x.v.Wf) k.e:=by
 obtain ⟨xs,rfl,_,hx⟩:=Wt.zmy Tryz.underlying58 h
 rw [zbS]
 obtain ⟨l,rfl,hl⟩:=j8 (f:=Key.cs) (p:=fun k=>Expr.All (fun x=>x.v.Wf) k.e) fun x hx'=>Wt.key (hx x hx')
 exact ⟨l,rfl,hl⟩
end Go.Ev
end
