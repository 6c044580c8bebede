import Derived.Test.YtifdakibkadfiaaGreatDoorMz3
import Derived.Test.YtifdakibkadfiaaGreatDoorMz4
set_option linter.all false
set_option maxRecDepth 100000
set_option maxHeartbeats 8000000
section
open Go Go.Proofs Go.RowKit
namespace Go.Ev
theorem zog:jC kL=true:=by decide +kernel
theorem zon:zej kL=true ∧ jL kL=false ∧ jR kL=false:=by decide +kernel
theorem zoE:zej kM=true ∧ jL kM=false ∧ jR kM=false ∧ jC kM=false:=by decide +kernel
theorem zox:zej jU=true ∧ jL jU=true ∧ jR jU=false ∧ jC jU=false:=by decide +kernel
theorem zoD:zej kJ=true ∧ jL kJ=false ∧ jR kJ=true ∧ jC kJ=false:=by decide +kernel
theorem zoK:zej jz=true ∧ jL jz=true ∧ jR jz=true ∧ jC jz=false:=by decide +kernel
def znA (a b:List (List Val)):List (List Val):=a.flatMap fun x=>b.map (x ++ ·)
def tT (tF:List Val → Bool × Int) (x y:List Val):Bool:=(tF (x ++ y)).1
def zoB (tF:List Val → Bool × Int) (a b:List (List Val)):Int:=Wm (fun x=>Wm (fun y=>(tF (x ++ y)).2) b) a
theorem zn6 {α:Type} (l:List α):Wm (fun _=>0) l=0:=Vt.2 fun _ _=>rfl
theorem zoi (T:List Val → List Val → Bool) (nb:List Val) (b:List (List Val)) (x:List Val):KJ T false nb b x=(b.filter (T x)).map (x ++ ·):=by unfold KJ;rw [Bool.false_and,if_neg Bool.false_ne_true]
theorem zok (tF:List Val → Bool × Int) (wa wb:Int) (a b:List (List Val)):xr kL tF wa wb a b=(znA a b,0):=by
 obtain ⟨h1,h2,h3⟩:=zon
 have hE:jE kL tF=fun _ _=>0:=by funext x y;unfold jE;rw [zog];rfl
 have hT:jT kL tF=fun _ _=>true:=by funext x y;unfold jT;rw [zog];rfl
 have he:zcD kL tF a b=0:=by
  unfold zcD;rw [hE]
  have:(fun x:List Val=>Wm (fun _:List Val=>(0:Int)) b)=fun _=>0:=by funext x;exact zn6 b
  rw [this];exact zn6 a
 unfold xr
 rw [h1,if_pos rfl,he,zjN,h2,h3,hT]
 unfold Yy
 rw [if_neg Bool.false_ne_true,List.append_nil]
 have:KJ (fun _ _=>true) false (wC wb) b=fun x=>b.map (x ++ ·):=by
  funext x
  rw [zoi,List.filter_eq_self.2 fun _ _=>rfl]
 rw [this];rfl
theorem znK (k:ByteArray) (tF:List Val → Bool × Int) (wa wb:Int) (a b:List (List Val)) {l r:Bool} (h:zej k=true ∧ jL k=l ∧ jR k=r ∧ jC k=false) :
  xr k tF wa wb a b=(okF (zoB tF a b) (Yy (tT tF) l r (wC wa) (wC wb) a b),zoB tF a b):=by
 obtain ⟨h1,h2,h3,h4⟩:=h
 have hE:jE k tF=fun x y=>(tF (x ++ y)).2:=by funext x y;unfold jE;rw [h4];rfl
 have hT:jT k tF=tT tF:=by funext x y;unfold jT tT;rw [h4];rfl
 unfold xr zcD zoB
 rw [h1,if_pos rfl,hE,hT,h2,h3]
theorem zoc {α:Type} (er:α → Int):∀ l m:List α,Wm er (l ++ m)=if Wm er l=0 then Wm er m else Wm er l
 | [],m=>by rw [List.nil_append];rfl
 | a :: l,m=>by
  rw [List.cons_append,Wm,Wm,zoc er l m]
  by_cases h:er a=0
  ·rw [if_pos h,if_pos h]
  ·rw [if_neg h,if_neg h,if_neg h]
theorem zoe {α β:Type} (er:β → Int) (f:α → β):∀ l:List α,Wm er (l.map f)=Wm (fun x=>er (f x)) l
 | []=>rfl
 | a :: l=>by rw [List.map_cons,Wm,Wm,zoe er f l]
theorem zn1 (tF:List Val → Bool × Int) (b:List (List Val)):∀ a:List (List Val),Wm (fun r=>(tF r).2) (znA a b)=zoB tF a b
 | []=>rfl
 | x :: a=>by
  have ih:=zn1 tF b a
  unfold znA zoB at ih ⊢
  rw [List.flatMap_cons,zoc,zoe,Wm,ih]
theorem zn5 (b:List (List Val)):∀ a:List (List Val),(znA a b).length=a.length * b.length
 | []=>by simp [znA]
 | x :: a=>by
  have ih:=zn5 b a
  unfold znA at ih ⊢
  rw [List.flatMap_cons,List.length_append,List.length_map,ih,List.length_cons,Nat.add_mul,Nat.one_mul,Nat.add_comm]
def znx (T:List Val → List Val → Bool) (a b:List (List Val)):List (List Val):=a.flatMap fun x=>(b.filter (T x)).map (x ++ ·)
def znI (T:List Val → List Val → Bool) (na:List Val) (a b:List (List Val)):List (List Val):=(b.filter fun y=>!(a.any fun x=>T x y)).map (na ++ ·)
theorem znG (tF:List Val → Bool × Int) (b:List (List Val)):∀ a:List (List Val),(znA a b).filter (fun r=>(tF r).1)=znx (tT tF) a b
 | []=>rfl
 | x :: a=>by
  have ih:=znG tF b a
  unfold znA znx at ih ⊢
  rw [List.flatMap_cons,List.flatMap_cons,List.filter_append,ih,List.filter_map]
  rfl
theorem zol (T:List Val → List Val → Bool) (na nb:List Val) (a b:List (List Val)):Yy T false false na nb a b=znx T a b:=by
 unfold Yy znx
 rw [if_neg Bool.false_ne_true,List.append_nil]
 first | done | congr 1
theorem zom (T:List Val → List Val → Bool) (na nb:List Val) (a b:List (List Val)):Yy T false true na nb a b=znx T a b ++ znI T na a b:=by
 unfold Yy znx znI
 rw [if_pos rfl]
 first | done | congr 2
theorem zop (T:List Val → List Val → Bool) (na nb:List Val) (a b:List (List Val)):Yy T true true na nb a b=Yy T true false na nb a b ++ znI T na a b:=by
 unfold Yy znI
 rw [if_pos rfl,if_neg Bool.false_ne_true,List.append_nil]
def zoh (T:List Val → List Val → Bool) (na:List Val) (a:List (List Val)) (y:List Val):List (List Val):=if (a.filter (T · y)).isEmpty then [na ++ y] else (a.filter (T · y)).map (· ++ y)
theorem znR (T:List Val → List Val → Bool) (y:List Val) (b:List (List Val)):∀ a:List (List Val),(znx T a (y :: b)).Perm ((a.filter (T · y)).map (· ++ y) ++ znx T a b)
 | []=>.refl _
 | x :: a=>by
  have ih:=znR T y b a
  unfold znx at ih ⊢
  rw [List.flatMap_cons,List.flatMap_cons]
  cases h:T x y with
  | true =>
   rw [List.filter_cons_of_pos (by exact h),List.filter_cons_of_pos (by exact h),List.map_cons,List.map_cons,List.cons_append,List.cons_append]
   refine .cons _ ?_
   refine (ih.append_left _).trans ?_
   rw [← List.append_assoc,← List.append_assoc]
   exact List.perm_append_comm.append_right _
  | false =>
   rw [List.filter_cons_of_neg (by simp [h]),List.filter_cons_of_neg (by simp [h])]
   refine (ih.append_left _).trans ?_
   rw [← List.append_assoc,← List.append_assoc]
   exact List.perm_append_comm.append_right _
theorem zoF (T:List Val → List Val → Bool) (a:List (List Val)) (y:List Val):(!(a.any fun x=>T x y))=(a.filter (T · y)).isEmpty:=by
 induction a with
 | nil=>rfl
 | cons x a ih =>
  rw [List.any_cons]
  cases h:T x y with
  | true=>rw [List.filter_cons_of_pos (by exact h)];rfl
  | false=>rw [List.filter_cons_of_neg (by simp [h]),← ih];rfl
theorem znS (T:List Val → List Val → Bool) (na:List Val) (a:List (List Val)):∀ b:List (List Val),(znx T a b ++ znI T na a b).Perm (b.flatMap (zoh T na a))
 | []=>by
  have:znx T a []=[]:=by unfold znx;simp
  rw [this];exact .refl _
 | y :: b=>by
  have ih:=znS T na a b
  have hc:=znR T y b a
  have hl:=zoF T a y
  rw [List.flatMap_cons]
  unfold znI at ih ⊢
  cases h:(a.filter (T · y)).isEmpty with
  | true =>
   rw [h] at hl
   have he:=List.isEmpty_iff.1 h
   rw [he,List.map_nil,List.nil_append] at hc
   rw [List.filter_cons_of_pos (by exact hl),List.map_cons,zoh,h,if_pos rfl]
   refine (hc.append_right _).trans ?_
   refine List.perm_middle.trans ?_
   exact .cons _ ih
  | false =>
   rw [h] at hl
   rw [List.filter_cons_of_neg (by rw [hl];simp),zoh,h,if_neg Bool.false_ne_true]
   refine (hc.append_right _).trans ?_
   rw [List.append_assoc]
   exact ih.append_left _
theorem zoq {T T':List Val → List Val → Bool} {na:List Val} {a b:List (List Val)} {w:Nat} (hb:∀ y,y ∈ b → y.length=w) (hT:∀ y,y ∈ b → ∀ x,x ∈ a → T' y x=T x y) (nb:List Val) :
  (Yy T' true false nb na b a).map (fun r=>r.drop w ++ r.take w)=b.flatMap (zoh T na a):=by
 unfold Yy
 rw [if_neg Bool.false_ne_true,List.append_nil,List.map_flatMap]
 have:∀ c:List (List Val),(∀ y,y ∈ c → y ∈ b) → (c.flatMap fun y=>(KJ T' true na a y).map fun r=>r.drop w ++ r.take w)=c.flatMap (zoh T na a):=fun c=>by
  induction c with
  | nil=>intro _;rfl
  | cons y c ih =>
   intro h
   rw [List.flatMap_cons,List.flatMap_cons,ih fun z hz=>h z (by simp [hz])]
   congr 1
   have hy:=hb y (h y (by simp))
   have hf:a.filter (T' y)=a.filter (T · y):=List.filter_congr fun x hx=>hT y (h y (by simp)) x hx
   have ht:∀ z:List Val,(y ++ z).drop w ++ (y ++ z).take w=z ++ y:=fun z=>by rw [← hy,List.drop_left,List.take_left]
   unfold KJ zoh
   rw [hf,Bool.true_and]
   split
   ·simp [ht]
   ·rw [List.map_map]
    congr 1;funext z;exact ht z
 exact this b fun _ h=>h
theorem zoj {T:List Val → List Val → Bool} {a b:List (List Val)} {wa wb:Nat} (ha:∀ x,x ∈ a → x.length=wa) (hb:∀ x,x ∈ b → x.length=wb):∀ r,r ∈ znx T a b → r.length=wa + wb:=fun r hr=>by
 unfold znx at hr
 obtain ⟨x,hx,hr⟩:=List.mem_flatMap.1 hr
 obtain ⟨y,hy,rfl⟩:=List.mem_map.1 hr
 rw [List.length_append,ha x hx,hb y (List.mem_filter.1 hy).1]
theorem zov {T:List Val → List Val → Bool} {a b:List (List Val)} {wa wb:Nat} {na:List Val} (hn:na.length=wa) (hb:∀ x,x ∈ b → x.length=wb):∀ r,r ∈ znI T na a b → r.length=wa + wb:=fun r hr=>by
 unfold znI at hr
 obtain ⟨y,hy,rfl⟩:=List.mem_map.1 hr
 rw [List.length_append,hn,hb y (List.mem_filter.1 hy).1]
theorem zou {T:List Val → List Val → Bool} {a b:List (List Val)} {wa wb:Nat} {na nb:List Val} (hn:nb.length=wb) (ha:∀ x,x ∈ a → x.length=wa) (hb:∀ x,x ∈ b → x.length=wb):∀ r,r ∈ Yy T true false na nb a b → r.length=wa + wb:=fun r hr=>by
 unfold Yy at hr
 rw [if_neg Bool.false_ne_true,List.append_nil] at hr
 obtain ⟨x,hx,hr⟩:=List.mem_flatMap.1 hr
 unfold KJ at hr
 split at hr
 ·obtain rfl:=List.mem_singleton.1 hr
  rw [List.length_append,ha x hx,hn]
 ·obtain ⟨y,hy,rfl⟩:=List.mem_map.1 hr
  rw [List.length_append,ha x hx,hb y (List.mem_filter.1 hy).1]
theorem znZ (n:Nat):(wC (n:Int)).length=n:=by rw [yX];omega
theorem zn3 (T:List Val → List Val → Bool) (b:List (List Val)):∀ a:List (List Val),(znx T a b).length ≤ a.length * b.length
 | []=>by simp [znx]
 | x :: a=>by
  have ih:=zn3 T b a
  unfold znx at ih ⊢
  have:=List.length_filter_le (T x) b
  rw [List.flatMap_cons,List.length_append,List.length_map,List.length_cons,Nat.add_mul,Nat.one_mul];omega
end Go.Ev
end
section
open Go Go.Proofs Go.RowKit
namespace Go.Ev
theorem zoR {p:Expr → Bool} {e:Expr}:[e].all p=p e:=by simp
theorem znP (ws wt:Int) (ls lt:List (List Val)) (e:Expr) (live:Good Tryz.prog 10 [] [] (cB true) [])
  (hws:I64 ws) (hls:∀ r,r ∈ ls → ∀ v,v ∈ r → I64 v.i) (hss:∀ r,r ∈ ls → ∀ v,v ∈ r → v.s.size ≤ 281474976710656)
  (hwt:I64 wt) (hlt:∀ r,r ∈ lt → ∀ v,v ∈ r → I64 v.i) (hst:∀ r,r ∈ lt → ∀ v,v ∈ r → v.s.size ≤ 281474976710656)
  (he:Expr.All (fun x=>I64 x.v.i) e) :
  Good Tryz.prog 7 [zlB ws ls,zlB wt lt,e.av] [] (cB true) []:=by
 have heva:=Ye ws hws ls hss
 have hevb:=Ye wt hwt lt hst
 have hwa:=Jr ws
 have hwb:=Jr wt
 generalize VD ws=wa at heva hwa
 generalize VD wt=wb at hevb hwb
 refine Good.zg TT 4000 Tryz.func7 rfl rfl ?_
 unfold Tryz.f7
 simp only [go_sem,zlB,go_sem_proc]
 refine Cl.pure TT 4000 live rfl rfl ?_
 cases hea:Zp ls with
 | false =>
  rw [hea,if_neg (by simp)] at heva
  simp only [go_sem,go_sem_proc]
  refine Cl.pure TT 4000 heva rfl rfl ?_
  cases heb:Zp lt with
  | false =>
   rw [heb,if_neg (by simp)] at hevb
   simp only [go_sem,go_sem_proc]
   refine Cl.pure TT 4000 hevb rfl rfl ?_
   simp only [go_sem,go_sem_proc]
   first | done | exact Le.refl _
  | true =>
   rw [heb,if_pos rfl] at hevb
   generalize lt.map (VX wb)=y at hevb
   simp only [go_sem,go_sem_proc]
   refine Cl.pure TT 4000 hevb rfl rfl ?_
   simp only [go_sem,go_sem_proc]
   first | done | exact Le.refl _
 | true =>
  rw [hea,if_pos rfl] at heva
  have htab:=zlz (w:=wa) hea hls
  generalize ls.map (VX wa)=x at heva htab
  have hx30:=htab.len
  simp only [go_sem,go_sem_proc]
  refine Cl.pure TT 4000 heva rfl rfl ?_
  cases heb:Zp lt with
  | false =>
   rw [heb,if_neg (by simp)] at hevb
   simp only [go_sem,go_sem_proc]
   refine Cl.pure TT 4000 hevb rfl rfl ?_
   simp only [go_sem,go_sem_proc]
   first | done | exact Le.refl _
  | true =>
   rw [heb,if_pos rfl] at hevb
   have htbb:=zlz (w:=wb) heb hlt
   generalize lt.map (VX wb)=y at hevb htbb
   have hy30:=htbb.len
   have hwp:IntKind.wrap .i64 ((wa:Int) + (wb:Int))=((wa + wb:Nat):Int):=by rw [qd (by omega) (by omega)];rfl
   simp only [go_sem,go_sem_proc]
   refine Cl.pure TT 4000 hevb rfl rfl ?_
   simp only [go_sem,hwp,go_sem_proc]
   have hbn:=zcj (wa + wb) (by omega) [e] (by simp)
   rw [zoR] at hbn
   simp only [List.map_cons,List.map_nil,Expr.Yc e] at hbn
   refine Cl.pure TT 4000 hbn rfl rfl ?_
   cases hb:zea (wa + wb) e with
   | false =>
    simp only [go_sem,go_sem_proc]
    first | done | exact Le.refl _
   | true =>
    obtain ⟨n1,n2,n3⟩:=zos hb he
    have hxw:∀ p,p ∈ x → p.length=wa:=fun p hp=>(htab.rows p hp).1
    have hyw:∀ q,q ∈ y → q.length=wb:=fun q hq=>(htbb.rows q hq).1
    have hrow:∀ p,p ∈ x → ∀ q,q ∈ y → zjI (p ++ q) e:=fun p hp q hq=>by
     refine zot ⟨?_,fun v hv=>?_⟩ n1 n2 n3
     ·rw [List.length_append,hxw p hp,hyw q hq]
     ·rcases List.mem_append.1 hv with hv | hv
      ·exact (htab.rows p hp).2 v hv
      ·exact (htbb.rows q hq).2 v hv
    have sw:=zoN wa wb (by omega) (by omega) e n3 n2
    have hswg:=zn2 (wa:Int) (wb:Int) e (n2.imp fun z h=>Nat.le_trans h.2 (by omega))
    have hbrow:∀ q,q ∈ y → ∀ p,p ∈ x → zjI (q ++ p) (znD wa wb e):=fun q hq p hp=>by
     refine zot ⟨?_,fun v hv=>?_⟩ (by rw [sw.wt];exact n1) sw.all sw.node
     ·rw [List.length_append,hxw p hp,hyw q hq]
     ·rcases List.mem_append.1 hv with hv | hv
      ·exact (htbb.rows q hq).2 v hv
      ·exact (htab.rows p hp).2 v hv
    have htF:∀ q,q ∈ y → ∀ p,p ∈ x → trF (znD wa wb e) (q ++ p)=trF e (p ++ q):=fun q hq p hp=>by
     unfold trF;rw [sw.ev p q (hxw p hp) (hyw q hq)]
    have J:∀ k:ByteArray,Good Tryz.prog 13 [cS k,.c (qD x),.c (qD y),cI wa,cI wb,e.av] [] (.tup [.c (qD (xr k (trF e) wa wb x y).1),cI (xr k (trF e) wa wb x y).2]) []:=fun k =>
     zeN k x y wa wb e (trF e) (by omega) (by omega) (fun p hp=>by rw [hxw p hp];omega) (fun q hq=>by rw [hyw q hq];omega) (by omega) (by omega) fun p hp q hq=>zcF _ e (hrow p hp q hq).p
    have znr:=J kL
    rw [zok] at znr
    have znt:=J kM
    rw [znK kM _ _ _ _ _ zoE,zol] at znt
    have znu:=J jU
    rw [znK jU _ _ _ _ _ zox] at znu
    have znv:=J kJ
    rw [znK kJ _ _ _ _ _ zoD,zom] at znv
    have zns:=J jz
    rw [znK jz _ _ _ _ _ zoK,zop] at zns
    have znq:=zeN jU y x wb wa (znD wa wb e) (trF (znD wa wb e)) (by omega) (by omega) (fun p hp=>by rw [hyw p hp];omega) (fun q hq=>by rw [hxw q hq];omega) (by omega) (by omega)
     fun q hq p hp=>zcF _ _ (hbrow q hq p hp).p
    rw [znK jU _ _ _ _ _ zox] at znq
    have hcl:=zn5 y x
    have hcm:x.length * y.length ≤ 30 * 30:=Nat.mul_le_mul hx30 hy30
    have hfi:=zn9 (znA x y) e (by omega) fun r hr=>by
     unfold znA at hr
     obtain ⟨p,hp,hr⟩:=List.mem_flatMap.1 hr
     obtain ⟨q,hq,rfl⟩:=List.mem_map.1 hr
     exact zcF _ e (hrow p hp q hq).p
    rw [zn1,znG] at hfi
    have hil:=zn3 (tT (trF e)) y x
    have hle:∀ p,p ∈ x → ∀ q,q ∈ y → tT (trF (znD wa wb e)) q p=tT (trF e) p q:=fun p hp q hq=>by unfold tT;rw [htF q hq p hp]
    have hF0:zoB (trF e) x y=0 → zoB (trF (znD wa wb e)) y x=0:=fun h=>by
     unfold zoB at h ⊢
     rw [Vt] at h ⊢
     intro q hq
     rw [Vt]
     intro p hp
     rw [htF q hq p hp]
     exact Vt.1 (h p hp) q hq
    have hbt:=zoq (T:=tT (trF e)) (T':=tT (trF (znD wa wb e))) (na:=wC wa) (a:=x) (b:=y) (w:=wb) hyw (fun q hq p hp=>hle p hp q hq) (wC wb)
    have hpm:=znS (tT (trF e)) (wC wa) x y
    rw [← hbt] at hpm
    have hri:∀ r,r ∈ znx (tT (trF e)) x y ++ znI (tT (trF e)) (wC wa) x y → r.length=wa + wb:=fun r hr=>by
     rcases List.mem_append.1 hr with hr | hr
     ·exact zoj hxw hyw r hr
     ·exact zov (znZ wa) hyw r hr
    have hbi:∀ r,r ∈ Yy (tT (trF (znD wa wb e))) true false (wC wb) (wC wa) y x → r.length=wa + wb:=fun r hr=>by
     have:=zou (znZ wa) hyw hxw r hr
     omega
    have hbl:=zhj (tT (trF (znD wa wb e))) true false (wC wb) (wC wa) y x
    have hll:=zhj (tT (trF e)) true false (wC wa) (wC wb) x y
    have hnl:(znI (tT (trF e)) (wC wa) x y).length ≤ y.length:=by unfold znI;rw [List.length_map];exact List.length_filter_le ..
    have hm1:y.length * (x.length + 1) ≤ 30 * 31:=Nat.mul_le_mul hy30 (by omega)
    have hm2:x.length * (y.length + 1) ≤ 30 * 31:=Nat.mul_le_mul hx30 (by omega)
    generalize Yy (tT (trF (znD wa wb e))) true false (wC wb) (wC wa) y x=Bk at znq hbt hpm hbi hbl
    generalize Yy (tT (trF e)) true false (wC wa) (wC wb) x y=Lf at znu zns hll
    generalize znx (tT (trF e)) x y=In at znt znv hfi hil hri hpm
    generalize znI (tT (trF e)) (wC wa) x y=Lo at znv zns hri hpm hnl
    generalize znA x y=Cr at znr hfi hcl
    generalize zoB (trF (znD wa wb e)) y x=F' at znq hF0
    generalize zoB (trF e) x y=F at znt znu znv zns hfi hF0
    obtain ⟨Rg,hRg⟩:∃ Rg,Rg=In ++ Lo:=⟨_,rfl⟩
    rw [← hRg] at znv hri hpm
    have hrl:Rg.length=In.length + Lo.length:=by rw [hRg,List.length_append]
    have hdr:Rg.drop In.length=Lo:=by rw [hRg,List.drop_left]
    have htk:Rg.take In.length=In:=by rw [hRg,List.take_left]
    have hal1:∀ x:List (List Val),(x.map qH).all (fun y=>y.length == 1)=true:=fun x=>List.all_eq_true.2 fun y hy=>by
     obtain ⟨z,_,rfl⟩:=List.mem_map.1 hy
     rfl
    have hrc:(fun r:List Val=>[CV.lst 3 false (r.map Val.cs)])=qH:=rfl
    have hz1:Rg.length * 24 ≤ 140737488355328:=by omega
    have hz2:(Rg.length + Bk.length) * 24 ≤ 140737488355328:=by omega
    have hwm:IntKind.wrap .i64 ((x.length:Int) * (y.length:Int))=((Cr.length:Nat):Int):=by rw [hcl,← Int.natCast_mul,qd (by omega) (by omega)]
    have sI:=JU (okF F In) (by
     unfold okF;split
     ·omega
     ·simp)
    simp only [go_sem,go_sem_proc]
    refine Cl.pure TT 4000 znr rfl rfl ?_
    simp only [go_sem,go_sem_proc]
    refine Cl.pure TT 4000 znt rfl rfl ?_
    simp only [go_sem,go_sem_proc]
    refine Cl.pure TT 4000 hfi rfl rfl ?_
    simp only [go_sem,bne_self_eq_false,List.length_map,hwm,go_sem_proc]
    refine Cl.pure TT 4000 sI rfl rfl ?_
    by_cases hF:F=0
    ·rw [hF] at znu znv zns znt
     rw [hF0 hF] at znq
     rw [zjN] at znu znv zns znq znt
     rw [hF,zjN]
     have b0:((0:Int) != 0)=false:=rfl
     simp only [go_sem,b0,go_sem_proc]
     refine Cl.pure TT 4000 znu rfl rfl ?_
     simp only [go_sem,go_sem_proc]
     refine Cl.pure TT 4000 znv rfl rfl ?_
     simp only [go_sem,go_sem_proc]
     refine Cl.pure TT 4000 zns rfl rfl ?_
     simp only [go_sem,go_sem_proc]
     refine Cl.pure TT 4000 hswg rfl rfl ?_
     simp only [go_sem,go_sem_proc]
     refine Cl.pure TT 4000 znq rfl rfl ?_
     obtain ⟨Z,hZ⟩:∃ Z,Z=Rg ++ Bk:=⟨_,rfl⟩
     have hap:List.map qH Rg ++ List.map qH Bk=List.map qH Z:=by rw [hZ,List.map_append]
     have hzl:Rg.length + Bk.length=Z.length:=by rw [hZ,List.length_append]
     have hzr:∀ r,r ∈ Z → r.length=wa + wb:=fun r hr=>by
      rw [hZ] at hr
      rcases List.mem_append.1 hr with hr | hr
      ·exact hri r hr
      ·exact hbi r hr
     rw [hzl] at hz2
     have ht:=zoa Bk wb (by omega) (by omega) fun r hr=>by have:=hbi r hr;omega
     have hb1:=znN Rg (Bk.map (znO wb)) hpm (by rw [List.length_map];omega)
     have hb2:=znN (Lf ++ Lo) (Lf ++ Lo) (.refl _) (by rw [List.length_append];omega)
     have hpu:=zoL Lf Lo (by omega)
     have sJ:=JU In (by omega)
     have hmin:min (In.length:Int) (Rg.length:Int)=(In.length:Int):=by omega
     have hle2:In.length ≤ Rg.length:=by omega
     have hk1:List.take Rg.length (List.map qH Rg)=List.map qH Rg:=List.take_of_length_le (by simp)
     have hk2:List.drop In.length (List.map qH Rg)=List.map qH Lo:=by rw [← List.map_drop,hdr]
     have hk3:List.take In.length (List.map qH Rg)=List.map qH In:=by rw [← List.map_take,htk]
     have hge:((Rg.length:Int) ≥ (In.length:Int))=True:=eq_true (by omega)
     simp only [go_sem,hrc,hal1,List.length_map,Nat.zero_add,hz1,hzl,hz2,hap,go_sem_proc]
     refine Lp.at TT 4000 6 (Nat.le_of_ble_eq_true rfl) [false,false,false,false,false,false,true,false,false,false,false,false,false,false,false,false,false,false,false,false,false,false,false,false,false,false,false,false,false,true,false,false,false,false,false,false,false,false,false,false,false,false,false,false,false,false,false,false,false,false,false,false,false,false,false,false,false,false,false,false,false,false,false,false,false,false,false,false,false,false,false,false,false,false,false,false,false,false,false,false,false,false,false,false,false,false,false,false,false,false,false,false,false,false,false,false,false,false,false,false,false,false,false,false,false,false,false,false,false,false,false,false,false,false,false,false,false,false,false,false,false,false,false,false,false,false,false,false,false,false,false,false,false,false,false,false,false,false,false,false,false,false,false,false,false,false,false,false,false,false,false,false,false,false,false,true,true,true,true,true,true,true,true,true,true,true] (fun j:Nat=>Z.length - j) (fun j=>j ≤ Z.length) (fun j=>[(155,cI j)]) (fun _=>[]) (0) (Nat.zero_le _) ?_ ?_
     ·simp only [go_sem,go_sem_proc]
      first | done | exact zq.of_eq rfl
     ·rintro j i1
      rcases Nat.lt_or_ge j Z.length with hlt3 | hge3
      ·obtain ⟨r,hr,hm,_,_⟩:=vj hlt3
       have hw:=zh (j:=j) (by omega)
       have hrl3:=hzr r hm
       simp only [go_sem,hlt3,hr,Nat.zero_add,List.length_map,hrl3,hwp,bne_self_eq_false,hw,go_sem_proc]
       exact ⟨j + 1,by omega,by omega,zq.of_eq rfl⟩
      ·have hj:j=Z.length:=by omega
       subst hj
       simp only [go_sem,Nat.lt_irrefl,List.length_map,hmin,hle2,hk1,hk2,go_sem_proc]
       refine Cl.pure TT 4000 hpu rfl rfl ?_
       simp only [go_sem,go_sem_proc]
       refine Cl.pure TT 4000 ht rfl rfl ?_
       simp only [go_sem,go_sem_proc]
       refine Cl.pure TT 4000 hb1 rfl rfl ?_
       simp only [go_sem,go_sem_proc]
       refine Cl.pure TT 4000 hb2 rfl rfl ?_
       simp only [go_sem,List.length_map,hge,hle2,hk3,go_sem_proc]
       refine Cl.pure TT 4000 sJ rfl rfl ?_
       simp only [go_sem,go_sem_proc]
       first | done | exact Le.refl _
    ·have hF':(F != 0)=true:=bne_iff_ne.2 hF
     simp only [go_sem,hF',go_sem_proc]
     first | done | exact Le.refl _
end Go.Ev
end
