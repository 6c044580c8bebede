import Derived.Test.YtifdakibkadfiaaGreatDoorMg3
import Derived.Test.YtifdakibkadfiaaGreatDoorMg2
set_option linter.all false
set_option maxRecDepth 100000
set_option maxHeartbeats 8000000
section
namespace Go.Proofs.YtifdakibkadfiaaGreatDoor
open Go.RowKit Go.Shelf Go
def zT (x:GV) (kd:Int):Bool:=x.k != 0 && (bits BinOp.and IntKind.i64 (kd / 2 ^ x.k.toNat) 1 == 0)
def Vu (i:Nat) (l:List GV) (r:GV × Int):Prop:=∀ (n:Nat) (W:World) (v:Value),zY W → jl W n → VS W v l → ∃ g cap,doV n i = .func (.func g) #[] cap ∧
 (∀ args w,(callFunc g args).run Tryz.prog w = .ok (.enter g args) w) ∧ Calls Tryz.prog g (#[v] ++ cap) W (zx (.tuple #[r.1.val,.int .i64 r.2]) W)
theorem zdx (name:ByteArray) (v:Value) (l:List GV) (w:World) (hv:VS w v l) (lo hi:Int) (is:Bool) (har:∀ W,Calls Tryz.prog 124 #[.string name] W (zx (.tuple #[.int .i64 lo,.int .i64 hi,.bool true]) W))
  (hck:∀ W,VS W v l → Calls Tryz.prog 105 #[v] W (zx (.bool true) W)) (hmax:zY w) (hl:¬ (l.length:Int) < lo) (hh:hi < 0 ∨ ¬ hi < (l.length:Int)) (e1:(name.toList == [99,111,97,108,101,115,99,101])=false) (e2:(name.toList == [110,117,108,108,105,102])=false) (i:Nat) (hpos:posOf name.toList=i) (hkl:l.length=(zu.getD i []).length) (hk4:∀ (j:Nat) (x:GV),l[j]?=some x → 0 ≤ x.k ∧ x.k ≤ 4) (r:GV × Int)
  (hT:(∃ (j:Nat) (x:GV) (kd:Int),l[j]?=some x ∧ (zu.getD i [])[j]?=some kd ∧ zT x kd=true) → r=(GV.none,20))
  (hN:(∀ (j:Nat) (x:GV) (kd:Int),l[j]?=some x → (zu.getD i [])[j]?=some kd → zT x kd=false) → (l.any fun x=>x.k == 0)=true → r=(GV.none,0))
  (hD:(∀ (j:Nat) (x:GV) (kd:Int),l[j]?=some x → (zu.getD i [])[j]?=some kd → zT x kd=false) → (l.any fun x=>x.k == 0)=false → Vu i l r) :
  Calls Tryz.prog 86 #[.string name,v] w (zx (.tuple #[r.1.val,.int .i64 r.2]) w):=by
 have hv0:=Lib.hid hv
 obtain ⟨A,c,rfl,hlen,hcell⟩:=hv
 generalize hn:l.length=n at *
 have HN:=Lib.hid hn;clear hn
 have hfind:=fun W=>Kx name W
 have HH:(0 ≤ hi) ∧ (¬ hi < (n:Int)) ∨ hi < 0:=by omega
 clear hh
 have HPO:=Lib.hid hpos
 have hi9:i < 9:=by have:=(zbF name.toList).1;omega
 have HT:=Lib.hid hT;have HNN:=Lib.hid hN;have HDD:=Lib.hid hD
 have HKL:=Lib.hid hkl
 have HK4:=Lib.hid hk4
 have HC:=Lib.hid hcell
 have HMX:=Lib.hid hmax
 clear hT hN hD hpos hkl hk4 hcell hmax
 go_enter Tryz.func86,Tryz.ntmps86
 go_wp2_with fail
 refine (har _).mono ?_
 rintro e w1 ⟨rfl,hb1⟩
 have r0:=za hb1 (a:=⟨w.heap.size,0,none⟩) (v:=.int .i64 0) (by simp [go_sem])
 have r1:=za hb1 (a:=⟨w.heap.size,1,none⟩) (v:=.int .i64 0) (by simp [go_sem])
 have r2:=za hb1 (a:=⟨w.heap.size,2,none⟩) (v:=.string ⟨#[]⟩) (by simp [go_sem])
 have z1:∀ o,w1.frozen? ⟨w.heap.size,o,none⟩=false:=fun o=>by rw [(zK hb1).2 _ _ (by simp)];simp [go_sem]
 have hB1:=later (w:=w) (by go_grown) hb1
 clear hb1
 go_wp2_with fail
 refine (hck _ (hv0.out.below hB1)).mono ?_
 rintro e w2 ⟨rfl,hb2⟩
 have q0:=za hb2 r0
 have q1:=za hb2 r1
 have q2:=za hb2 r2
 have hz:w.heap.size < w2.heap.size:=zd q0
 have z2:∀ o,w2.frozen? ⟨w.heap.size,o,none⟩=false:=fun o=>by rw [(zK hb2).2 _ _ (zd r0)];exact z1 o
 have hB:=later hB1 hb2
 clear r0 r1 r2 z1 hB1 hb2 hck har
 rcases HH with ⟨hh0,hh1⟩ | hh1
 all_goals
  go_wp2_with fail
  refine (hfind _).mono ?_
  rintro e w3 ⟨hb3,⟨hp,rfl⟩ | ⟨i',nt,hi',hp,hnt,ht,rfl⟩⟩
  ·exfalso;have:=HPO.out;omega
  have hii:i'=i:=by have:=HPO.out;omega
  subst hii
  clear hp hi'
  have hv3:=(hv0.out.below hB).below hb3
  obtain ⟨g,cap,hdo⟩:=JW nt i' hi9
  have p0:=za hb3 q0
  have p1:=za hb3 q1
  have p2:=za hb3 q2
  have hz3:w.heap.size < w3.heap.size:=zd p0
  have z3:∀ o,w3.frozen? ⟨w.heap.size,o,none⟩=false:=fun o=>by rw [(zK hb3).2 _ _ (zd q0)];exact z2 o
  have hB3:=later hB hb3
  have HTAB:=Lib.hid ht
  have HV3:=Lib.hid hv3
  clear q0 q1 q2 z2 hz hB hb3 hfind ht hv3 hnt
  unfold y5
  rw [hdo]
  have HDO:=Lib.hid hdo
  clear hdo
  have HKN:Hid ((zu.getD i' []).length=n):=by have h1:=HKL.out;have h2:=HN.out;unfold Hid;omega
  rw [HKN.out]
  generalize hkb:nt + K9.getD i' 0=kb
  have HKB:=Lib.hid hkb
  clear hkb
  generalize kR i'=nm
  go_wp2_with fail
  have hB4:Below w.heap.size w (w3.alloc (.cells #[.string nm,.slice (some ⟨kb,0,none⟩) n n,.func (.func g) #[] cap] 175)):=hB3.alloc hB3.size _
  have HTAB4:Hid (jl (w3.alloc (.cells #[.string nm,.slice (some ⟨kb,0,none⟩) n n,.func (.func g) #[] cap] 175)) nt):=HTAB.out.below ((Below.refl _ _).alloc (Nat.le_refl _) _)
  have s1:(w3.alloc (.cells #[.string nm,.slice (some ⟨kb,0,none⟩) n n,.func (.func g) #[] cap] 175)).cell? ⟨w3.heap.size,1,none⟩=some (.slice (some ⟨kb,0,none⟩) n n):=by simp [go_sem]
  have s2:(w3.alloc (.cells #[.string nm,.slice (some ⟨kb,0,none⟩) n n,.func (.func g) #[] cap] 175)).cell? ⟨w3.heap.size,2,none⟩=some (.func (.func g) #[] cap):=by simp [go_sem]
  have p0':=zc (o:=(.cells #[.string nm,.slice (some ⟨kb,0,none⟩) n n,.func (.func g) #[] cap] 175)) p0
  have p1':=zc (o:=(.cells #[.string nm,.slice (some ⟨kb,0,none⟩) n n,.func (.func g) #[] cap] 175)) p1
  have p2':=zc (o:=(.cells #[.string nm,.slice (some ⟨kb,0,none⟩) n n,.func (.func g) #[] cap] 175)) p2
  have z4:∀ o,(w3.alloc (.cells #[.string nm,.slice (some ⟨kb,0,none⟩) n n,.func (.func g) #[] cap] 175)).frozen? ⟨w.heap.size,o,none⟩=false:=fun o=>by
   rw [((zK ((Below.refl _ w3).alloc (Nat.le_refl _) _)).2 _ _ hz3)];exact z3 o
  generalize w3.alloc (.cells #[.string nm,.slice (some ⟨kb,0,none⟩) n n,.func (.func g) #[] cap] 175)=w4 at *
  generalize w3.heap.size=fb at *
  clear p0 p1 p2 hz3 z3 hB3 HTAB HV3
  go_loopw [12,13,74] (fun _ _ s74 wr=>∃ k:Nat,k ≤ n ∧ s74 = .int .i64 k ∧ Below w4.heap.size w4 wr ∧ Hid (∀ (j:Nat) (x:GV) (kd:Int),j < k → l[j]?=some x → (zu.getD i' [])[j]?=some kd → zT x kd=false)) (fun _ _ s74 _=>n - (intOf s74).toNat)
  case atStart=>exact ⟨0,Nat.zero_le _,rfl,Below.refl _ _,fun j x kd hj=>absurd hj (Nat.not_lt_zero _)⟩
  case round =>
   obtain ⟨k,hk,rfl,hbr,hg⟩:=hrel
   have hBr:=later hB4 hbr
   by_cases hlt:k < n
   ·obtain ⟨x,hx⟩:∃ x,l[k]?=some x:=⟨_,List.getElem?_eq_getElem (by rw [HN.out];exact hlt)⟩
    obtain ⟨kd,hkd⟩:∃ kd,(zu.getD i' [])[k]?=some kd:=⟨_,List.getElem?_eq_getElem (by rw [HKN.out];exact hlt)⟩
    obtain ⟨b,o,rfl,c0,c1,c2⟩:=HC.out k x hx
    have d0:=za hBr c0
    have d1:=za hBr c1
    have d2:=za hBr c2
    have kc:=za hbr (HTAB4.out.kinds i' hi9 k kd hkd)
    rw [HKB.out] at kc
    have t1:=za hbr s1
    have u0:=za hbr p0'
    have u1:=za hbr p1'
    have u2:=za hbr p2'
    have hzr:w.heap.size < wr.heap.size:=zd u0
    have hzf:fb < wr.heap.size:=zd t1
    have hzk:kb < wr.heap.size:=zd kc
    have zr:∀ o,wr.frozen? ⟨w.heap.size,o,none⟩=false:=fun o=>by rw [(zK hbr).2 _ _ (zd p0')];exact z4 o
    have hx4:=HK4.out k x hx
    have HX:=Lib.hid hx;have HKD:=Lib.hid hkd
    clear hx hkd c0 c1 c2 s1 s2 p0' p1' p2' z4
    by_cases hx0:x.k=0
    ·have hne:(x.k != 0)=false:=by rw [hx0];rfl
     have HX0:=Lib.hid hx0
     clear hx0
     go_wp2_with fail
     go_quiet (fail)
     go_wp2_with fail
     go_roundw
     case rel =>
      go_light
      refine ⟨k + 1,by omega,by go_num,yo (hbr.alloc hbr.size _) _,fun j y kd' hj hy hkd'=>?_⟩
      rcases Nat.lt_succ_iff_lt_or_eq.1 hj with h | rfl
      ·exact hg.out j y kd' h hy hkd'
      ·have:=HX.out;rw [hy] at this;cases this
       unfold zT;rw [hne];rfl
     case measure=>simp [intOf];omega
    ·have hne:(x.k != 0)=true:=bne_iff_ne.2 hx0
     clear hx0
     cases hbit:(bits BinOp.and IntKind.i64 (kd / 2 ^ x.k.toNat) 1 == 0) with
     | true =>
      go_wp2_with fail
      go_quiet (fail)
      go_wp2_with fail
      refine bodyPost_ret (zl rfl rfl (by with_reducible exact zj (Qb (zc u0)) (Qb (zc u1)) (Qb (zc u2))) (Tryz.isAgg26 _) (Tryz.sizeOf26 _)) rfl ?_
      exact zx.mk (by rw [HT.out ⟨k,x,kd,HX.out,HKD.out,by unfold zT;rw [hne,hbit];rfl⟩];rfl) ((((yo (hBr.alloc hBr.size _) _).setCell (Nat.le_refl _) _).setCell (Nat.le_refl _) _).setCell (Nat.le_refl _) _)
     | false =>
      go_wp2_with fail
      go_quiet (fail)
      go_wp2_with fail
      go_roundw
      case rel =>
       go_light
       refine ⟨k + 1,by omega,by go_num,yo (hbr.alloc hbr.size _) _,fun j y kd' hj hy hkd'=>?_⟩
       rcases Nat.lt_succ_iff_lt_or_eq.1 hj with h | rfl
       ·exact hg.out j y kd' h hy hkd'
       ·have h1:=HX.out;rw [hy] at h1;cases h1
        have h2:=HKD.out;rw [hkd'] at h2;cases h2
        unfold zT;rw [hbit,Bool.and_false]
      case measure=>simp [intOf];omega
   ·have hkn:k=n:=by omega
    have hall:∀ (j:Nat) (x:GV) (kd:Int),l[j]?=some x → (zu.getD i' [])[j]?=some kd → zT x kd=false:=fun j x kd hj hkd=>hg.out j x kd (by have:=(List.getElem?_eq_some_iff.1 hj).1;rw [HN.out] at this;omega) hj hkd
    have HALL:=Lib.hid hall
    have t2:=za hbr s2
    have u0:=za hbr p0'
    have u1:=za hbr p1'
    have u2:=za hbr p2'
    have zr:∀ o,wr.frozen? ⟨w.heap.size,o,none⟩=false:=fun o=>by rw [(zK hbr).2 _ _ (zd p0')];exact z4 o
    have hvr:=hv0.out.below hBr
    have htr:=HTAB4.out.below hbr
    have hmr:=HMX.out.below hBr
    have hnu:=yJ _ l wr hvr
    clear hall hg s1 s2 p0' p1' p2' z4 hbr
    cases hany:(l.any fun x=>x.k == 0) with
    | true =>
     rw [hany] at hnu
     have HANY:=Lib.hid hany
     clear hany htr hvr hmr
     go_wp2_with fail
     refine hnu.mono ?_
     rintro e w5 ⟨rfl,hb5⟩
     have p0:=za hb5 u0
     have p1:=za hb5 u1
     have p2:=za hb5 u2
     have hz5:w.heap.size < w5.heap.size:=zd p0
     have z5:∀ o,w5.frozen? ⟨w.heap.size,o,none⟩=false:=fun o=>by rw [(zK hb5).2 _ _ (zd u0)];exact zr o
     have hB5:=later hBr hb5
     clear u0 u1 u2 zr hnu hb5 hBr
     go_wp2
     refine bodyPost_ret (zl rfl rfl (by with_reducible exact zj p0 p1 p2) (Tryz.isAgg26 _) (Tryz.sizeOf26 _)) rfl ?_
     exact zx.mk (by rw [HNN.out HALL.out HANY.out];rfl) (by go_grown)
    | false =>
     rw [hany] at hnu
     have hdoes:=HDD.out HALL.out hany
     have HANY:=Lib.hid hany
     clear hany
     go_wp2_with fail
     refine hnu.mono ?_
     rintro e w5 ⟨rfl,hb5⟩
     have p0:=za hb5 u0
     have p1:=za hb5 u1
     have p2:=za hb5 u2
     have t5:=za hb5 t2
     have hz5:w.heap.size < w5.heap.size:=zd p0
     have hz5f:fb < w5.heap.size:=zd t5
     have z5:∀ o,w5.frozen? ⟨w.heap.size,o,none⟩=false:=fun o=>by rw [(zK hb5).2 _ _ (zd u0)];exact zr o
     have hB5:=later hBr hb5
     obtain ⟨g',cap',hd,eg,hc⟩:=hdoes nt w5 _ (hmr.below hb5) (htr.below hb5) (hvr.below hb5)
     rw [HDO.out] at hd
     simp only [Value.func.injEq,Fn.func.injEq,true_and] at hd
     obtain ⟨rfl,rfl⟩:=hd
     clear u0 u1 u2 t2 zr hnu hb5 hBr htr hvr hmr hdoes
     unfold GV.val at hc ⊢
     go_wp2_with fail
     refine hc.mono ?_
     rintro e w6 ⟨rfl,hb6⟩
     have n0:=za hb6 p0
     have n1:=za hb6 p1
     have n2:=za hb6 p2
     have hz6:w.heap.size < w6.heap.size:=zd n0
     have z6:∀ o,w6.frozen? ⟨w.heap.size,o,none⟩=false:=fun o=>by rw [(zK hb6).2 _ _ (zd p0)];exact z5 o
     have hB6:=later hB5 hb6
     clear p0 p1 p2 t5 hz5 hz5f z5 hB5 hb6 hc eg
     go_wp2
     refine bodyPost_ret (zl rfl rfl (by with_reducible exact zj n0 n1 n2) (Tryz.isAgg26 _) (Tryz.sizeOf26 _)) rfl ?_
     exact zx.mk rfl (by go_grown)
end Go.Proofs.YtifdakibkadfiaaGreatDoor
end
section
namespace Go.Proofs.YtifdakibkadfiaaGreatDoor
open Go.RowKit Go.Shelf Go
theorem VS.row {w:World} {v:Value} {l:List GV} (h:VS w v l) (h0:0 < l.length):∃ b o c:Nat,v = .slice (some ⟨b,o,none⟩) l.length c ∧ ∀ (j:Nat) (x:GV),l[j]?=some x →
  w.cell? ⟨b,o + j * 3,none⟩=some (.int .i64 x.k) ∧ w.cell? ⟨b,o + j * 3 + 1,none⟩=some (.int .i64 x.i) ∧ w.cell? ⟨b,o + j * 3 + 2,none⟩=some (.string x.s):=by
 obtain ⟨A,c,hv,hl,hc⟩:=h
 obtain ⟨b,o,rfl,_⟩:=hc 0 l[0] (List.getElem?_eq_getElem h0)
 refine ⟨b,o,c,hv,fun j x hj=>?_⟩
 obtain ⟨b',o',he,h1⟩:=hc j x hj
 simp only [Option.some.injEq,Addr.mk.injEq,and_true] at he
 obtain ⟨rfl,rfl⟩:=he
 exact h1
def zlc (s:ByteArray) (f n:Int):ByteArray:=(s.extract (min (f - 1) (s.size:Int)).toNat s.size).extract 0 (min n ((s.extract (min (f - 1) (s.size:Int)).toNat s.size).size:Int)).toNat
def qJ (x:GV) (f n:Int):GV × Int:=
 if n < 0 then (GV.none,1)
 else if f < 1 then (if f + n ≤ 1 then (⟨x.k,0,⟨#[]⟩⟩,0) else (⟨x.k,0,zlc x.s 1 (f + n - 1)⟩,0))
 else (⟨x.k,0,zlc x.s f n⟩,0)
theorem zx.gv {v:GV} {e:Int} {r:GV × Int} {w w':World} (h:r=(v,e)) (hb:Below w.heap.size w w'):zx (.tuple #[r.1.val,.int .i64 r.2]) w (.returned (.tuple #[.agg #[.int .i64 v.k,.int .i64 v.i,.string v.s],.int .i64 e])) w':=⟨by rw [h];rfl,hb⟩
theorem zeY (x y z:GV) (v:Value) (w:World) (hv:VS w v [x,y,z]) (hy:I64 y.i) (hz:I64 z.i) (hs:x.s.size ≤ 9223372036854775807) :
  Calls Tryz.prog 200 #[v] w (zx (.tuple #[(qJ x y.i z.i).1.val,.int .i64 (qJ x y.i z.i).2]) w):=by
 obtain ⟨b,o,c,rfl,hc⟩:=hv.row (by simp)
 obtain ⟨x0,x1,x2⟩:=hc 0 x rfl
 obtain ⟨y0,y1,y2⟩:=hc 1 y rfl
 obtain ⟨z0,z1,z2⟩:=hc 2 z rfl
 rw [Nat.zero_mul,Nat.add_zero] at x0 x1 x2
 rw [Nat.one_mul] at y0 y1 y2
 simp only [Nat.reduceMul] at z0 z1 z2
 have hlen:[x,y,z].length=3:=rfl
 rw [hlen]
 clear hc hv hlen
 generalize hp:qJ x y.i z.i=p
 have HP:=Lib.hid hp;clear hp
 obtain ⟨xk,xi,s⟩:=x
 obtain ⟨yk,yi,ys⟩:=y
 obtain ⟨zk,zi,zs⟩:=z
 simp only at *
 have hzb:b < w.heap.size:=zd x0
 have hzb':b < w.heap.size + 1:=by omega
 unfold I64 at hy hz
 go_enter Tryz.func200,Tryz.ntmps200
 go_wp2
 go_quiet (fail)
 have r0:((w.alloc (.cells #[.int .i64 0,.int .i64 0,.string ⟨#[]⟩] 26)).drewN nq).cell? ⟨w.heap.size,0,none⟩=some (.int .i64 0):=by simp [go_sem]
 have r1:((w.alloc (.cells #[.int .i64 0,.int .i64 0,.string ⟨#[]⟩] 26)).drewN nq).cell? ⟨w.heap.size,1,none⟩=some (.int .i64 0):=by simp [go_sem]
 have r2:((w.alloc (.cells #[.int .i64 0,.int .i64 0,.string ⟨#[]⟩] 26)).drewN nq).cell? ⟨w.heap.size,2,none⟩=some (.string ⟨#[]⟩):=by simp [go_sem]
 have hB:Below w.heap.size w ((w.alloc (.cells #[.int .i64 0,.int .i64 0,.string ⟨#[]⟩] 26)).drewN nq):=yo ((Below.refl _ _).alloc (Nat.le_refl _) _) _
 go_wp2
 ·have h1:zi < 0:=by assumption
  refine bodyPost_ret (zl rfl rfl (by with_reducible exact zj r0 r1 r2) (Tryz.isAgg26 _) (Tryz.sizeOf26 _)) rfl ?_
  exact zx.gv (v:=GV.none) (by rw [← HP.out];unfold qJ;rw [if_pos h1]) (((hB.setCell (Nat.le_refl _) _).setCell (Nat.le_refl _) _).setCell (Nat.le_refl _) _)
 ·have h1:0 ≤ zi:=by assumption
  have h2:yi < 1:=by assumption
  have h3:yi + zi ≤ 1:=by assumption
  refine bodyPost_ret (zl rfl rfl (by with_reducible exact zj r0 r1 r2) (Tryz.isAgg26 _) (Tryz.sizeOf26 _)) rfl ?_
  exact zx.gv (v:=⟨xk,0,⟨#[]⟩⟩) (by rw [← HP.out];unfold qJ;rw [if_neg (by omega),if_pos h2,if_pos h3]) (((hB.setCell (Nat.le_refl _) _).setCell (Nat.le_refl _) _).setCell (Nat.le_refl _) _)
 ·have h1:0 ≤ zi:=by assumption
  have h2:yi < 1:=by assumption
  have h3:¬ yi + zi ≤ 1:=by omega
  have ht:(s.extract (min 0 (s.size:Int)).toNat s.size).size ≤ 9223372036854775807:=by rw [ByteArray.size_extract];omega
  have hfin:p=(⟨xk,0,(s.extract (min 0 (s.size:Int)).toNat s.size).extract 0 (min (yi + zi - 1) ((s.extract (min 0 (s.size:Int)).toNat s.size).size:Int)).toNat⟩,0):=by
   rw [← HP.out];unfold qJ;rw [if_neg (by omega),if_pos h2,if_neg h3];rfl
  generalize s.extract (min 0 (s.size:Int)).toNat s.size=t at *
  have HF:=Lib.hid hfin;clear hfin
  have hm0:0 ≤ min (yi + zi - 1) (t.size:Int):=by omega
  have hm1:min (yi + zi - 1) (t.size:Int) ≤ (t.size:Int):=by omega
  refine qq 11 (by kernel_rfl) (by kernel_rfl) (by kernel_rfl) ?_
  simp only [List.take_succ_cons,List.take_zero,List.drop_succ_cons,List.drop_zero]
  repeat (go_big_quiet_step (fail))
  refine wpQuiet_nil ?_
  rintro w1 ⟨u,rfl⟩
  have hb1:=qO _ u
  generalize kG _ u=w1 at *
  have q0:=za hb1 r0
  have q1:=za hb1 r1
  have q2:=za hb1 r2
  have hz1:w.heap.size < w1.heap.size:=zd q0
  have f1:∀ o,w1.frozen? ⟨w.heap.size,o,none⟩=false:=fun o=>by rw [(zK hb1).2 _ _ (zd r0)];simp [go_sem]
  have hB1:=later hB hb1
  clear r0 r1 r2 hB hb1 hm0 hm1
  go_wp2
  refine bodyPost_ret (zl rfl rfl (by with_reducible exact zj q0 q1 q2) (Tryz.isAgg26 _) (Tryz.sizeOf26 _)) rfl ?_
  exact zx.gv (v:=⟨xk,0,_⟩) HF.out (((hB1.setCell (Nat.le_refl _) _).setCell (Nat.le_refl _) _).setCell (Nat.le_refl _) _)
 ·have h1:0 ≤ zi:=by assumption
  have h2:¬ yi < 1:=by omega
  have ht:(s.extract (min (yi - 1) (s.size:Int)).toNat s.size).size ≤ 9223372036854775807:=by rw [ByteArray.size_extract];omega
  have hfin:p=(⟨xk,0,(s.extract (min (yi - 1) (s.size:Int)).toNat s.size).extract 0 (min (zi) ((s.extract (min (yi - 1) (s.size:Int)).toNat s.size).size:Int)).toNat⟩,0):=by
   rw [← HP.out];unfold qJ;rw [if_neg (by omega),if_neg h2];rfl
  generalize s.extract (min (yi - 1) (s.size:Int)).toNat s.size=t at *
  have HF:=Lib.hid hfin;clear hfin
  have hm0:0 ≤ min (zi) (t.size:Int):=by omega
  have hm1:min (zi) (t.size:Int) ≤ (t.size:Int):=by omega
  refine qq 11 (by kernel_rfl) (by kernel_rfl) (by kernel_rfl) ?_
  simp only [List.take_succ_cons,List.take_zero,List.drop_succ_cons,List.drop_zero]
  repeat (go_big_quiet_step (fail))
  refine wpQuiet_nil ?_
  rintro w1 ⟨u,rfl⟩
  have hb1:=qO _ u
  generalize kG _ u=w1 at *
  have q0:=za hb1 r0
  have q1:=za hb1 r1
  have q2:=za hb1 r2
  have hz1:w.heap.size < w1.heap.size:=zd q0
  have f1:∀ o,w1.frozen? ⟨w.heap.size,o,none⟩=false:=fun o=>by rw [(zK hb1).2 _ _ (zd r0)];simp [go_sem]
  have hB1:=later hB hb1
  clear r0 r1 r2 hB hb1 hm0 hm1
  go_wp2
  refine bodyPost_ret (zl rfl rfl (by with_reducible exact zj q0 q1 q2) (Tryz.isAgg26 _) (Tryz.sizeOf26 _)) rfl ?_
  exact zx.gv (v:=⟨xk,0,_⟩) HF.out (((hB1.setCell (Nat.le_refl _) _).setCell (Nat.le_refl _) _).setCell (Nat.le_refl _) _)
end Go.Proofs.YtifdakibkadfiaaGreatDoor
end
section
namespace Go.Proofs.YtifdakibkadfiaaGreatDoor
open Go.RowKit Go.Shelf Go
def vw:Obj:=.cells #[.int .i64 0,.int .i64 0,.string ⟨#[]⟩] 26
def instrS (x y:GV):GV × Int:=(GV.num (Lib.index x.s.data.toList y.s.data.toList + 1),0)
def vK (x:GV):GV × Int:=(GV.num x.s.size,0)
def Vj (x:GV):GV × Int:=(GV.num (if x.i < 0 then -1 else if x.i > 0 then 1 else 0),0)
def Yj (x:GV):GV × Int:=if x.i < 0 then k9 [45] (GV.num 0) x else (x,0)
theorem index_le (s t:List UInt8):Lib.index s t ≤ s.length:=by
 by_cases h:0 ≤ Lib.index s t
 ·have:=Lib.index_room s t h;omega
 ·omega
theorem zis (x y:GV) (v:Value) (w:World) (hv:VS w v [x,y]) (hs:x.s.size < 4294967281) (hm:zY w) :
  Calls Tryz.prog 201 #[v] w (zx (.tuple #[(instrS x y).1.val,.int .i64 (instrS x y).2]) w):=by
 obtain ⟨b,o,c,rfl,hc⟩:=hv.row (by simp)
 obtain ⟨m,hm⟩:=hm
 obtain ⟨x0,x1,x2⟩:=hc 0 x rfl
 obtain ⟨y0,y1,y2⟩:=hc 1 y rfl
 rw [Nat.zero_mul,Nat.add_zero] at x0 x1 x2
 rw [Nat.one_mul] at y0 y1 y2
 have hlen:[x,y].length=2:=rfl
 rw [hlen]
 clear hc hv hlen
 generalize hp:instrS x y=p
 have HP:=Lib.hid hp;clear hp
 obtain ⟨xk,xi,s⟩:=x
 obtain ⟨yk,yi,t⟩:=y
 simp only at *
 have hix:=fun W (h:W.cell? ⟨0,0,none⟩=some (.int .i64 m))=>Tryz.strings_Index s t m W hs h
 have hn:=fun n W=>vW n W
 have l1:=Lib.index_ge s.data.toList t.data.toList
 have l2:=index_le s.data.toList t.data.toList
 have l3:s.data.toList.length=s.size:=rfl
 unfold instrS at HP
 simp only at HP
 generalize Lib.index s.data.toList t.data.toList=ix at *
 have l4:ix < 4294967281:=by omega
 clear l2 l3
 unfold GV.val GV.num at hn
 simp only at hn
 have hzb:b < w.heap.size:=zd x0
 have hzb':b < w.heap.size + 1:=by omega
 go_enter Tryz.func201,Tryz.ntmps201
 go_wp2_with fail
 have r0:(w.alloc vw).cell? ⟨w.heap.size,0,none⟩=some (.int .i64 0):=by simp [go_sem,vw]
 have r1:(w.alloc vw).cell? ⟨w.heap.size,1,none⟩=some (.int .i64 0):=by simp [go_sem,vw]
 have r2:(w.alloc vw).cell? ⟨w.heap.size,2,none⟩=some (.string ⟨#[]⟩):=by simp [go_sem,vw]
 have hm2:=zc (o:=vw) hm
 have hB:Below w.heap.size w (w.alloc vw):=(Below.refl _ _).alloc (Nat.le_refl _) _
 refine qq 11 (by kernel_rfl) (by kernel_rfl) (by kernel_rfl) ?_
 simp only [List.take_succ_cons,List.take_zero,List.drop_succ_cons,List.drop_zero]
 repeat (go_big_quiet_step (first
  | exact Calls.kQ (hix _ (za (qO _ _) hm2)) (fun _ _ h=>⟨h.1,by rw [h.2];exact Below.refl _ _⟩)
  | exact Calls.kQ (hn _ _) (fun _ _ h=>h)))
 refine wpQuiet_nil ?_
 rintro w1 ⟨u,rfl⟩
 have hb1:=qO _ u
 generalize kG _ u=w1 at *
 have q0:=za hb1 r0
 have q1:=za hb1 r1
 have q2:=za hb1 r2
 have hz1:w.heap.size < w1.heap.size:=zd q0
 have f1:∀ o,w1.frozen? ⟨w.heap.size,o,none⟩=false:=fun o=>by rw [(zK hb1).2 _ _ (zd r0)];simp [go_sem,vw]
 have hB1:=later hB hb1
 clear r0 r1 r2 hB hb1 hm2
 go_wp2
 refine bodyPost_ret (zl rfl rfl (by with_reducible exact zj q0 q1 q2) (Tryz.isAgg26 _) (Tryz.sizeOf26 _)) rfl ?_
 exact zx.gv (v:=GV.num _) HP.out.symm (((hB1.setCell (Nat.le_refl _) _).setCell (Nat.le_refl _) _).setCell (Nat.le_refl _) _)
theorem zgB (x:GV) (v:Value) (w:World) (hv:VS w v [x]) :
  Calls Tryz.prog 195 #[v] w (zx (.tuple #[(vK x).1.val,.int .i64 (vK x).2]) w):=by
 obtain ⟨b,o,c,rfl,hc⟩:=hv.row (by simp)
 obtain ⟨x0,x1,x2⟩:=hc 0 x rfl
 rw [Nat.zero_mul,Nat.add_zero] at x0 x1 x2
 have hlen:[x].length=1:=rfl
 rw [hlen]
 clear hc hv hlen
 generalize hp:vK x=p
 have HP:=Lib.hid hp;clear hp
 obtain ⟨xk,xi,s⟩:=x
 simp only at *
 have hn:=fun n W=>vW n W
 unfold vK at HP
 simp only at HP
 unfold GV.val GV.num at hn
 simp only at hn
 have hzb:b < w.heap.size:=zd x0
 go_enter Tryz.func195,Tryz.ntmps195
 go_wp2_with fail
 refine (hn _ _).mono ?_
 rintro e w1 ⟨rfl,hb1⟩
 have q0:=za hb1 (a:=⟨w.heap.size,0,none⟩) (v:=.int .i64 0) (by simp [go_sem])
 have q1:=za hb1 (a:=⟨w.heap.size,1,none⟩) (v:=.int .i64 0) (by simp [go_sem])
 have q2:=za hb1 (a:=⟨w.heap.size,2,none⟩) (v:=.string ⟨#[]⟩) (by simp [go_sem])
 have hz1:w.heap.size < w1.heap.size:=zd q0
 have f1:∀ o,w1.frozen? ⟨w.heap.size,o,none⟩=false:=fun o=>by rw [(zK hb1).2 _ _ (by simp)];simp [go_sem]
 have hB1:=later (w:=w) (by go_grown) hb1
 clear hb1
 go_wp2
 refine bodyPost_ret (zl rfl rfl (by with_reducible exact zj q0 q1 q2) (Tryz.isAgg26 _) (Tryz.sizeOf26 _)) rfl ?_
 exact zx.gv (v:=GV.num _) HP.out.symm (((hB1.setCell (Nat.le_refl _) _).setCell (Nat.le_refl _) _).setCell (Nat.le_refl _) _)
theorem za1 (a b:Int) (w:World) :
  Calls Tryz.prog 96 #[.int .i64 a,.int .i64 b] w fun e w'=>e = .returned (.int .i64 (if a < b then -1 else if a > b then 1 else 0)) ∧ w'=w:=by
 generalize hp:(if a < b then (-1:Int) else if a > b then 1 else 0)=p
 have HP:=Lib.hid hp;clear hp
 go_enter Tryz.func96,Tryz.ntmps96
 go_wp2
 ·have h:a < b:=by assumption
  go_returns
  exact ⟨by rw [← HP.out,if_pos h];rfl,rfl⟩
 ·have h:¬ a < b:=by omega
  have h2:b < a:=by assumption
  go_returns
  exact ⟨by rw [← HP.out,if_neg h,if_pos h2];rfl,rfl⟩
 ·have h:¬ a < b:=by omega
  have h2:¬ b < a:=by omega
  go_returns
  exact ⟨by rw [← HP.out,if_neg h,if_neg h2];rfl,rfl⟩
theorem zkl (x:GV) (v:Value) (w:World) (hv:VS w v [x]) :
  Calls Tryz.prog 194 #[v] w (zx (.tuple #[(Vj x).1.val,.int .i64 (Vj x).2]) w):=by
 obtain ⟨b,o,c,rfl,hc⟩:=hv.row (by simp)
 obtain ⟨x0,x1,x2⟩:=hc 0 x rfl
 rw [Nat.zero_mul,Nat.add_zero] at x0 x1 x2
 have hlen:[x].length=1:=rfl
 rw [hlen]
 clear hc hv hlen
 generalize hp:Vj x=p
 have HP:=Lib.hid hp;clear hp
 obtain ⟨xk,xi,s⟩:=x
 simp only at *
 have hn:=fun n W=>vW n W
 have hcm:=fun W=>za1 xi 0 W
 unfold Vj at HP
 simp only at HP
 generalize (if xi < 0 then (-1:Int) else if xi > 0 then 1 else 0)=cv at *
 unfold GV.val GV.num at hn
 simp only at hn
 have hzb:b < w.heap.size:=zd x0
 go_enter Tryz.func194,Tryz.ntmps194
 go_wp2_with fail
 refine (hcm _).mono ?_
 rintro e w0 ⟨rfl,rfl⟩
 go_wp2_with fail
 refine (hn _ _).mono ?_
 rintro e w1 ⟨rfl,hb1⟩
 have q0:=za hb1 (a:=⟨w.heap.size,0,none⟩) (v:=.int .i64 0) (by simp [go_sem])
 have q1:=za hb1 (a:=⟨w.heap.size,1,none⟩) (v:=.int .i64 0) (by simp [go_sem])
 have q2:=za hb1 (a:=⟨w.heap.size,2,none⟩) (v:=.string ⟨#[]⟩) (by simp [go_sem])
 have hz1:w.heap.size < w1.heap.size:=zd q0
 have f1:∀ o,w1.frozen? ⟨w.heap.size,o,none⟩=false:=fun o=>by rw [(zK hb1).2 _ _ (by simp)];simp [go_sem]
 have hB1:=later (w:=w) (by go_grown) hb1
 clear hb1
 go_wp2
 refine bodyPost_ret (zl rfl rfl (by with_reducible exact zj q0 q1 q2) (Tryz.isAgg26 _) (Tryz.sizeOf26 _)) rfl ?_
 exact zx.gv (v:=GV.num _) HP.out.symm (((hB1.setCell (Nat.le_refl _) _).setCell (Nat.le_refl _) _).setCell (Nat.le_refl _) _)
theorem zmf (x:GV) (v:Value) (w:World) (hv:VS w v [x]) (hx:I64 x.i) :
  Calls Tryz.prog 193 #[v] w (zx (.tuple #[(Yj x).1.val,.int .i64 (Yj x).2]) w):=by
 obtain ⟨b,o,c,rfl,hc⟩:=hv.row (by simp)
 obtain ⟨x0,x1,x2⟩:=hc 0 x rfl
 rw [Nat.zero_mul,Nat.add_zero] at x0 x1 x2
 have hlen:[x].length=1:=rfl
 rw [hlen]
 clear hc hv hlen
 generalize hp:Yj x=p
 have HP:=Lib.hid hp;clear hp
 have hn:=fun W=>xN x W hx
 have hzb:b < w.heap.size:=zd x0
 clear hx
 by_cases h:x.i < 0
 ·unfold Yj at HP
  rw [if_pos h] at HP
  generalize k9 [45] (GV.num 0) x=q at *
  obtain ⟨r,er⟩:=q
  obtain ⟨xk,xi,s⟩:=x
  simp only at *
  unfold GV.val at hn
  simp only at hn
  go_enter Tryz.func193,Tryz.ntmps193
  go_wp2_with fail
  refine (hn _).mono ?_
  rintro e w1 ⟨rfl,hb1⟩
  have q0:=za hb1 (a:=⟨w.heap.size,0,none⟩) (v:=.int .i64 0) (by simp [go_sem])
  have q1:=za hb1 (a:=⟨w.heap.size,1,none⟩) (v:=.int .i64 0) (by simp [go_sem])
  have q2:=za hb1 (a:=⟨w.heap.size,2,none⟩) (v:=.string ⟨#[]⟩) (by simp [go_sem])
  have hz1:w.heap.size < w1.heap.size:=zd q0
  have f1:∀ o,w1.frozen? ⟨w.heap.size,o,none⟩=false:=fun o=>by rw [(zK hb1).2 _ _ (by simp)];simp [go_sem]
  have hB1:=later (w:=w) (by go_grown) hb1
  clear hb1
  go_wp2
  refine bodyPost_ret (zl rfl rfl (by with_reducible exact zj q0 q1 q2) (Tryz.isAgg26 _) (Tryz.sizeOf26 _)) rfl ?_
  exact zx.gv (v:=r) HP.out.symm (((hB1.setCell (Nat.le_refl _) _).setCell (Nat.le_refl _) _).setCell (Nat.le_refl _) _)
 ·unfold Yj at HP
  rw [if_neg h] at HP
  obtain ⟨xk,xi,s⟩:=x
  simp only at *
  clear hn
  go_enter Tryz.func193,Tryz.ntmps193
  go_wp2
  refine bodyPost_ret (zl (k:=.int .i64 xk) (i:=.int .i64 xi) (s:=.string s) rfl rfl ⟨by simp [go_sem],by simp [go_sem],by simp [go_sem]⟩ (Tryz.isAgg26 _) (Tryz.sizeOf26 _)) rfl ?_
  exact zx.gv (v:=⟨xk,xi,s⟩) HP.out.symm ((Below.refl _ _).alloc (Nat.le_refl _) _)
end Go.Proofs.YtifdakibkadfiaaGreatDoor
end
