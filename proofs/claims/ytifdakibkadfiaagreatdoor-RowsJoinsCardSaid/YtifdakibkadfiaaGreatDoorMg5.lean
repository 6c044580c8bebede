import Derived.Test.YtifdakibkadfiaaGreatDoorMg4
set_option linter.all false
set_option maxRecDepth 100000
set_option maxHeartbeats 8000000
section
namespace Go.Proofs.YtifdakibkadfiaaGreatDoor
open Go.RowKit Go.Shelf Go
def vl (v:GV):Bool:=v.k == 1 || v.k == 2
theorem w8 (v:GV) (w:World) :
  Calls Tryz.prog 178 #[v.val] w (zx (.bool (vl v)) w):=by
 unfold GV.val vl
 go_enter Tryz.func178,Tryz.ntmps178
 cases h:(v.k == 1)
 ·go_wp2
  go_returns
  exact zx.bool rfl ((Below.refl _ _).alloc (Nat.le_refl _) _)
 ·go_wp2
  go_returns
  exact zx.bool rfl ((Below.refl _ _).alloc (Nat.le_refl _) _)
def Xi (a b:GV):GV × Int:=
 if !(a.ok && b.ok) then (GV.none,1)
 else if vl a || vl b then (GV.none,20)
 else if a.k == 0 || b.k == 0 then (GV.none,0)
 else if a.k != b.k then (GV.none,20)
 else (⟨a.k,0,a.s ++ b.s⟩,0)
theorem zil (a b:GV) (w:World) (ha:I64 a.i) (hb:I64 b.i) (hq:(a.ok && b.ok)=false)  :
  Calls Tryz.prog 141 #[a.val,b.val] w (zx (.tuple #[GV.none.val,.int .i64 1]) w):=by
 have hc:=qf a b ha hb _ hq
 have hwa:=fun W=>w8 a W
 have hwb:=fun W=>w8 b W
 unfold GV.val at *
 clear hq ha hb
 go_enter Tryz.func141,Tryz.ntmps141
 go_wp2_with fail
 refine (hc _ _ (VS.made [a,b] (by simp) rfl rfl (by simp))).mono ?_
 rintro e w1 ⟨rfl,hb1⟩
 have ra_0:=za hb1 (a:=⟨w.heap.size + 1 + 1,0,none⟩) (v:=.int .i64 0) (by simp [go_sem])
 have rb_0:=za hb1 (a:=⟨w.heap.size + 1 + 1,1,none⟩) (v:=.int .i64 0) (by simp [go_sem])
 have rc_0:=za hb1 (a:=⟨w.heap.size + 1 + 1,2,none⟩) (v:=.string ⟨#[]⟩) (by simp [go_sem])
 have aa_0:=za hb1 (a:=⟨w.heap.size,0,none⟩) (v:=.int .i64 a.k) (by simp [go_sem])
 have ab_0:=za hb1 (a:=⟨w.heap.size,1,none⟩) (v:=.int .i64 a.i) (by simp [go_sem])
 have ac_0:=za hb1 (a:=⟨w.heap.size,2,none⟩) (v:=.string a.s) (by simp [go_sem])
 have ba_0:=za hb1 (a:=⟨w.heap.size + 1,0,none⟩) (v:=.int .i64 b.k) (by simp [go_sem])
 have bb_0:=za hb1 (a:=⟨w.heap.size + 1,1,none⟩) (v:=.int .i64 b.i) (by simp [go_sem])
 have bc_0:=za hb1 (a:=⟨w.heap.size + 1,2,none⟩) (v:=.string b.s) (by simp [go_sem])
 have fz_0:∀ o,w1.frozen? ⟨w.heap.size + 1 + 1,o,none⟩=false:=fun o=>by rw [(zK hb1).2 _ _ (by simp)];simp [go_sem]
 have hzra_0:w.heap.size + 1 + 1 < w1.heap.size:=zd ra_0
 have hB_0:=later (w:=w) (by go_grown) hb1
 clear hb1 hc
 go_wp2
 refine bodyPost_ret (zl rfl rfl (by first | with_reducible exact zj ra_0 rb_0 rc_0 | with_reducible exact zb (zj ra_0 rb_0 rc_0) | with_reducible exact zb (zb (zj ra_0 rb_0 rc_0))) (Tryz.isAgg26 _) (Tryz.sizeOf26 _)) rfl ?_
 exact zx.mk rfl (by go_grown)
theorem zav (a b:GV) (w:World) (ha:I64 a.i) (hb:I64 b.i) (hq:(a.ok && b.ok)=true) (hwh:vl a=true) :
  Calls Tryz.prog 141 #[a.val,b.val] w (zx (.tuple #[GV.none.val,.int .i64 20]) w):=by
 have hc:=qf a b ha hb _ hq
 have hwa:=fun W=>w8 a W
 have hwb:=fun W=>w8 b W
 unfold GV.val at *
 clear hq ha hb
 go_enter Tryz.func141,Tryz.ntmps141
 go_wp2_with fail
 refine (hc _ _ (VS.made [a,b] (by simp) rfl rfl (by simp))).mono ?_
 rintro e w1 ⟨rfl,hb1⟩
 have ra_0:=za hb1 (a:=⟨w.heap.size + 1 + 1,0,none⟩) (v:=.int .i64 0) (by simp [go_sem])
 have rb_0:=za hb1 (a:=⟨w.heap.size + 1 + 1,1,none⟩) (v:=.int .i64 0) (by simp [go_sem])
 have rc_0:=za hb1 (a:=⟨w.heap.size + 1 + 1,2,none⟩) (v:=.string ⟨#[]⟩) (by simp [go_sem])
 have aa_0:=za hb1 (a:=⟨w.heap.size,0,none⟩) (v:=.int .i64 a.k) (by simp [go_sem])
 have ab_0:=za hb1 (a:=⟨w.heap.size,1,none⟩) (v:=.int .i64 a.i) (by simp [go_sem])
 have ac_0:=za hb1 (a:=⟨w.heap.size,2,none⟩) (v:=.string a.s) (by simp [go_sem])
 have ba_0:=za hb1 (a:=⟨w.heap.size + 1,0,none⟩) (v:=.int .i64 b.k) (by simp [go_sem])
 have bb_0:=za hb1 (a:=⟨w.heap.size + 1,1,none⟩) (v:=.int .i64 b.i) (by simp [go_sem])
 have bc_0:=za hb1 (a:=⟨w.heap.size + 1,2,none⟩) (v:=.string b.s) (by simp [go_sem])
 have fz_0:∀ o,w1.frozen? ⟨w.heap.size + 1 + 1,o,none⟩=false:=fun o=>by rw [(zK hb1).2 _ _ (by simp)];simp [go_sem]
 have hzra_0:w.heap.size + 1 + 1 < w1.heap.size:=zd ra_0
 have hB_0:=later (w:=w) (by go_grown) hb1
 clear hb1 hc
 rw [hwh] at hwa
 clear hwh
 go_wp2_with fail
 refine (hwa _).mono ?_
 rintro e w2 ⟨rfl,hb2⟩
 have ra_1:=za hb2 ra_0
 have rb_1:=za hb2 rb_0
 have rc_1:=za hb2 rc_0
 have aa_1:=za hb2 aa_0
 have ab_1:=za hb2 ab_0
 have ac_1:=za hb2 ac_0
 have ba_1:=za hb2 ba_0
 have bb_1:=za hb2 bb_0
 have bc_1:=za hb2 bc_0
 have fz_1:∀ o,World.frozen? w2 ⟨w.heap.size + 1 + 1,o,none⟩=false:=fun o=>by rw [(zK hb2).2 _ _ (zd ra_0)];exact fz_0 o
 have hzra_1:w.heap.size + 1 + 1 < w2.heap.size:=zd ra_1
 have hB_1:=later hB_0 hb2
 clear ra_0 rb_0 rc_0 aa_0 ab_0 ac_0 ba_0 bb_0 bc_0 fz_0
 go_wp2
 refine bodyPost_ret (zl rfl rfl (by first | with_reducible exact zj ra_1 rb_1 rc_1 | with_reducible exact zb (zj ra_1 rb_1 rc_1) | with_reducible exact zb (zb (zj ra_1 rb_1 rc_1))) (Tryz.isAgg26 _) (Tryz.sizeOf26 _)) rfl ?_
 exact zx.mk rfl (by go_grown)
theorem zae (a b:GV) (w:World) (ha:I64 a.i) (hb:I64 b.i) (hq:(a.ok && b.ok)=true) (hwh:vl a=false) (hwh2:vl b=true) :
  Calls Tryz.prog 141 #[a.val,b.val] w (zx (.tuple #[GV.none.val,.int .i64 20]) w):=by
 have hc:=qf a b ha hb _ hq
 have hwa:=fun W=>w8 a W
 have hwb:=fun W=>w8 b W
 unfold GV.val at *
 clear hq ha hb
 go_enter Tryz.func141,Tryz.ntmps141
 go_wp2_with fail
 refine (hc _ _ (VS.made [a,b] (by simp) rfl rfl (by simp))).mono ?_
 rintro e w1 ⟨rfl,hb1⟩
 have ra_0:=za hb1 (a:=⟨w.heap.size + 1 + 1,0,none⟩) (v:=.int .i64 0) (by simp [go_sem])
 have rb_0:=za hb1 (a:=⟨w.heap.size + 1 + 1,1,none⟩) (v:=.int .i64 0) (by simp [go_sem])
 have rc_0:=za hb1 (a:=⟨w.heap.size + 1 + 1,2,none⟩) (v:=.string ⟨#[]⟩) (by simp [go_sem])
 have aa_0:=za hb1 (a:=⟨w.heap.size,0,none⟩) (v:=.int .i64 a.k) (by simp [go_sem])
 have ab_0:=za hb1 (a:=⟨w.heap.size,1,none⟩) (v:=.int .i64 a.i) (by simp [go_sem])
 have ac_0:=za hb1 (a:=⟨w.heap.size,2,none⟩) (v:=.string a.s) (by simp [go_sem])
 have ba_0:=za hb1 (a:=⟨w.heap.size + 1,0,none⟩) (v:=.int .i64 b.k) (by simp [go_sem])
 have bb_0:=za hb1 (a:=⟨w.heap.size + 1,1,none⟩) (v:=.int .i64 b.i) (by simp [go_sem])
 have bc_0:=za hb1 (a:=⟨w.heap.size + 1,2,none⟩) (v:=.string b.s) (by simp [go_sem])
 have fz_0:∀ o,w1.frozen? ⟨w.heap.size + 1 + 1,o,none⟩=false:=fun o=>by rw [(zK hb1).2 _ _ (by simp)];simp [go_sem]
 have hzra_0:w.heap.size + 1 + 1 < w1.heap.size:=zd ra_0
 have hB_0:=later (w:=w) (by go_grown) hb1
 clear hb1 hc
 rw [hwh] at hwa
 rw [hwh2] at hwb
 clear hwh hwh2
 go_wp2_with fail
 refine (hwa _).mono ?_
 rintro e w2 ⟨rfl,hb2⟩
 have ra_1:=za hb2 ra_0
 have rb_1:=za hb2 rb_0
 have rc_1:=za hb2 rc_0
 have aa_1:=za hb2 aa_0
 have ab_1:=za hb2 ab_0
 have ac_1:=za hb2 ac_0
 have ba_1:=za hb2 ba_0
 have bb_1:=za hb2 bb_0
 have bc_1:=za hb2 bc_0
 have fz_1:∀ o,World.frozen? w2 ⟨w.heap.size + 1 + 1,o,none⟩=false:=fun o=>by rw [(zK hb2).2 _ _ (zd ra_0)];exact fz_0 o
 have hzra_1:w.heap.size + 1 + 1 < w2.heap.size:=zd ra_1
 have hB_1:=later hB_0 hb2
 clear ra_0 rb_0 rc_0 aa_0 ab_0 ac_0 ba_0 bb_0 bc_0 fz_0
 go_wp2_with fail
 refine (hwb _).mono ?_
 rintro e w3 ⟨rfl,hb3⟩
 have ra_2:=za hb3 ra_1
 have rb_2:=za hb3 rb_1
 have rc_2:=za hb3 rc_1
 have aa_2:=za hb3 aa_1
 have ab_2:=za hb3 ab_1
 have ac_2:=za hb3 ac_1
 have ba_2:=za hb3 ba_1
 have bb_2:=za hb3 bb_1
 have bc_2:=za hb3 bc_1
 have fz_2:∀ o,World.frozen? w3 ⟨w.heap.size + 1 + 1,o,none⟩=false:=fun o=>by rw [(zK hb3).2 _ _ (zd ra_1)];exact fz_1 o
 have hzra_2:w.heap.size + 1 + 1 < w3.heap.size:=zd ra_2
 have hB_2:=later hB_1 hb3
 clear ra_1 rb_1 rc_1 aa_1 ab_1 ac_1 ba_1 bb_1 bc_1 fz_1
 go_wp2
 refine bodyPost_ret (zl rfl rfl (by first | with_reducible exact zj ra_2 rb_2 rc_2 | with_reducible exact zb (zj ra_2 rb_2 rc_2) | with_reducible exact zb (zb (zj ra_2 rb_2 rc_2))) (Tryz.isAgg26 _) (Tryz.sizeOf26 _)) rfl ?_
 exact zx.mk rfl (by go_grown)
theorem zeB (a b:GV) (w:World) (ha:I64 a.i) (hb:I64 b.i) (hq:(a.ok && b.ok)=true) (hwh:vl a=false) (hwh2:vl b=false) (hnull:(a.k == 0 || b.k == 0)=true) :
  Calls Tryz.prog 141 #[a.val,b.val] w (zx (.tuple #[GV.none.val,.int .i64 0]) w):=by
 have hc:=qf a b ha hb _ hq
 have hwa:=fun W=>w8 a W
 have hwb:=fun W=>w8 b W
 have hn:=jD a b _ hnull
 clear hnull
 unfold GV.val at *
 clear hq ha hb
 go_enter Tryz.func141,Tryz.ntmps141
 go_wp2_with fail
 refine (hc _ _ (VS.made [a,b] (by simp) rfl rfl (by simp))).mono ?_
 rintro e w1 ⟨rfl,hb1⟩
 have ra_0:=za hb1 (a:=⟨w.heap.size + 1 + 1,0,none⟩) (v:=.int .i64 0) (by simp [go_sem])
 have rb_0:=za hb1 (a:=⟨w.heap.size + 1 + 1,1,none⟩) (v:=.int .i64 0) (by simp [go_sem])
 have rc_0:=za hb1 (a:=⟨w.heap.size + 1 + 1,2,none⟩) (v:=.string ⟨#[]⟩) (by simp [go_sem])
 have aa_0:=za hb1 (a:=⟨w.heap.size,0,none⟩) (v:=.int .i64 a.k) (by simp [go_sem])
 have ab_0:=za hb1 (a:=⟨w.heap.size,1,none⟩) (v:=.int .i64 a.i) (by simp [go_sem])
 have ac_0:=za hb1 (a:=⟨w.heap.size,2,none⟩) (v:=.string a.s) (by simp [go_sem])
 have ba_0:=za hb1 (a:=⟨w.heap.size + 1,0,none⟩) (v:=.int .i64 b.k) (by simp [go_sem])
 have bb_0:=za hb1 (a:=⟨w.heap.size + 1,1,none⟩) (v:=.int .i64 b.i) (by simp [go_sem])
 have bc_0:=za hb1 (a:=⟨w.heap.size + 1,2,none⟩) (v:=.string b.s) (by simp [go_sem])
 have fz_0:∀ o,w1.frozen? ⟨w.heap.size + 1 + 1,o,none⟩=false:=fun o=>by rw [(zK hb1).2 _ _ (by simp)];simp [go_sem]
 have hzra_0:w.heap.size + 1 + 1 < w1.heap.size:=zd ra_0
 have hB_0:=later (w:=w) (by go_grown) hb1
 clear hb1 hc
 rw [hwh] at hwa
 rw [hwh2] at hwb
 clear hwh hwh2
 go_wp2_with fail
 refine (hwa _).mono ?_
 rintro e w2 ⟨rfl,hb2⟩
 have ra_1:=za hb2 ra_0
 have rb_1:=za hb2 rb_0
 have rc_1:=za hb2 rc_0
 have aa_1:=za hb2 aa_0
 have ab_1:=za hb2 ab_0
 have ac_1:=za hb2 ac_0
 have ba_1:=za hb2 ba_0
 have bb_1:=za hb2 bb_0
 have bc_1:=za hb2 bc_0
 have fz_1:∀ o,World.frozen? w2 ⟨w.heap.size + 1 + 1,o,none⟩=false:=fun o=>by rw [(zK hb2).2 _ _ (zd ra_0)];exact fz_0 o
 have hzra_1:w.heap.size + 1 + 1 < w2.heap.size:=zd ra_1
 have hB_1:=later hB_0 hb2
 clear ra_0 rb_0 rc_0 aa_0 ab_0 ac_0 ba_0 bb_0 bc_0 fz_0
 go_wp2_with fail
 refine (hwb _).mono ?_
 rintro e w3 ⟨rfl,hb3⟩
 have ra_2:=za hb3 ra_1
 have rb_2:=za hb3 rb_1
 have rc_2:=za hb3 rc_1
 have aa_2:=za hb3 aa_1
 have ab_2:=za hb3 ab_1
 have ac_2:=za hb3 ac_1
 have ba_2:=za hb3 ba_1
 have bb_2:=za hb3 bb_1
 have bc_2:=za hb3 bc_1
 have fz_2:∀ o,World.frozen? w3 ⟨w.heap.size + 1 + 1,o,none⟩=false:=fun o=>by rw [(zK hb3).2 _ _ (zd ra_1)];exact fz_1 o
 have hzra_2:w.heap.size + 1 + 1 < w3.heap.size:=zd ra_2
 have hB_2:=later hB_1 hb3
 clear ra_1 rb_1 rc_1 aa_1 ab_1 ac_1 ba_1 bb_1 bc_1 fz_1
 go_wp2_with fail
 refine (hn _ _ (VS.made [a,b] (by first | (with_reducible rfl) | simp | simp [go_sem]) rfl rfl (by simp))).mono ?_
 rintro e w4 ⟨rfl,hb4⟩
 have ra_3:=za hb4 (zc ra_2)
 have rb_3:=za hb4 (zc rb_2)
 have rc_3:=za hb4 (zc rc_2)
 have aa_3:=za hb4 (zc aa_2)
 have ab_3:=za hb4 (zc ab_2)
 have ac_3:=za hb4 (zc ac_2)
 have ba_3:=za hb4 (zc ba_2)
 have bb_3:=za hb4 (zc bb_2)
 have bc_3:=za hb4 (zc bc_2)
 have fz_3:∀ o,w4.frozen? ⟨w.heap.size + 1 + 1,o,none⟩=false:=fun o=>by rw [(zK hb4).2 _ _ (zd (zc ra_2)),xv (zd ra_2)];exact fz_2 o
 have hzra_3:w.heap.size + 1 + 1 < w4.heap.size:=zd ra_3
 have hB_3:=later (hB_2.alloc hB_2.size _) hb4
 clear ra_2 rb_2 rc_2 aa_2 ab_2 ac_2 ba_2 bb_2 bc_2 fz_2
 go_wp2
 refine bodyPost_ret (zl rfl rfl (by first | with_reducible exact zj ra_3 rb_3 rc_3 | with_reducible exact zb (zj ra_3 rb_3 rc_3) | with_reducible exact zb (zb (zj ra_3 rb_3 rc_3))) (Tryz.isAgg26 _) (Tryz.sizeOf26 _)) rfl ?_
 exact zx.mk rfl (by go_grown)
theorem zf1 (a b:GV) (w:World) (ha:I64 a.i) (hb:I64 b.i) (hq:(a.ok && b.ok)=true) (hwh:vl a=false) (hwh2:vl b=false) (hnull:(a.k == 0 || b.k == 0)=false) (hk:(a.k != b.k)=true) :
  Calls Tryz.prog 141 #[a.val,b.val] w (zx (.tuple #[GV.none.val,.int .i64 20]) w):=by
 have hc:=qf a b ha hb _ hq
 have hwa:=fun W=>w8 a W
 have hwb:=fun W=>w8 b W
 have hn:=jD a b _ hnull
 clear hnull
 unfold GV.val at *
 clear hq ha hb
 go_enter Tryz.func141,Tryz.ntmps141
 go_wp2_with fail
 refine (hc _ _ (VS.made [a,b] (by simp) rfl rfl (by simp))).mono ?_
 rintro e w1 ⟨rfl,hb1⟩
 have ra_0:=za hb1 (a:=⟨w.heap.size + 1 + 1,0,none⟩) (v:=.int .i64 0) (by simp [go_sem])
 have rb_0:=za hb1 (a:=⟨w.heap.size + 1 + 1,1,none⟩) (v:=.int .i64 0) (by simp [go_sem])
 have rc_0:=za hb1 (a:=⟨w.heap.size + 1 + 1,2,none⟩) (v:=.string ⟨#[]⟩) (by simp [go_sem])
 have aa_0:=za hb1 (a:=⟨w.heap.size,0,none⟩) (v:=.int .i64 a.k) (by simp [go_sem])
 have ab_0:=za hb1 (a:=⟨w.heap.size,1,none⟩) (v:=.int .i64 a.i) (by simp [go_sem])
 have ac_0:=za hb1 (a:=⟨w.heap.size,2,none⟩) (v:=.string a.s) (by simp [go_sem])
 have ba_0:=za hb1 (a:=⟨w.heap.size + 1,0,none⟩) (v:=.int .i64 b.k) (by simp [go_sem])
 have bb_0:=za hb1 (a:=⟨w.heap.size + 1,1,none⟩) (v:=.int .i64 b.i) (by simp [go_sem])
 have bc_0:=za hb1 (a:=⟨w.heap.size + 1,2,none⟩) (v:=.string b.s) (by simp [go_sem])
 have fz_0:∀ o,w1.frozen? ⟨w.heap.size + 1 + 1,o,none⟩=false:=fun o=>by rw [(zK hb1).2 _ _ (by simp)];simp [go_sem]
 have hzra_0:w.heap.size + 1 + 1 < w1.heap.size:=zd ra_0
 have hB_0:=later (w:=w) (by go_grown) hb1
 clear hb1 hc
 rw [hwh] at hwa
 rw [hwh2] at hwb
 clear hwh hwh2
 go_wp2_with fail
 refine (hwa _).mono ?_
 rintro e w2 ⟨rfl,hb2⟩
 have ra_1:=za hb2 ra_0
 have rb_1:=za hb2 rb_0
 have rc_1:=za hb2 rc_0
 have aa_1:=za hb2 aa_0
 have ab_1:=za hb2 ab_0
 have ac_1:=za hb2 ac_0
 have ba_1:=za hb2 ba_0
 have bb_1:=za hb2 bb_0
 have bc_1:=za hb2 bc_0
 have fz_1:∀ o,World.frozen? w2 ⟨w.heap.size + 1 + 1,o,none⟩=false:=fun o=>by rw [(zK hb2).2 _ _ (zd ra_0)];exact fz_0 o
 have hzra_1:w.heap.size + 1 + 1 < w2.heap.size:=zd ra_1
 have hB_1:=later hB_0 hb2
 clear ra_0 rb_0 rc_0 aa_0 ab_0 ac_0 ba_0 bb_0 bc_0 fz_0
 go_wp2_with fail
 refine (hwb _).mono ?_
 rintro e w3 ⟨rfl,hb3⟩
 have ra_2:=za hb3 ra_1
 have rb_2:=za hb3 rb_1
 have rc_2:=za hb3 rc_1
 have aa_2:=za hb3 aa_1
 have ab_2:=za hb3 ab_1
 have ac_2:=za hb3 ac_1
 have ba_2:=za hb3 ba_1
 have bb_2:=za hb3 bb_1
 have bc_2:=za hb3 bc_1
 have fz_2:∀ o,World.frozen? w3 ⟨w.heap.size + 1 + 1,o,none⟩=false:=fun o=>by rw [(zK hb3).2 _ _ (zd ra_1)];exact fz_1 o
 have hzra_2:w.heap.size + 1 + 1 < w3.heap.size:=zd ra_2
 have hB_2:=later hB_1 hb3
 clear ra_1 rb_1 rc_1 aa_1 ab_1 ac_1 ba_1 bb_1 bc_1 fz_1
 go_wp2_with fail
 refine (hn _ _ (VS.made [a,b] (by first | (with_reducible rfl) | simp | simp [go_sem]) rfl rfl (by simp))).mono ?_
 rintro e w4 ⟨rfl,hb4⟩
 have ra_3:=za hb4 (zc ra_2)
 have rb_3:=za hb4 (zc rb_2)
 have rc_3:=za hb4 (zc rc_2)
 have aa_3:=za hb4 (zc aa_2)
 have ab_3:=za hb4 (zc ab_2)
 have ac_3:=za hb4 (zc ac_2)
 have ba_3:=za hb4 (zc ba_2)
 have bb_3:=za hb4 (zc bb_2)
 have bc_3:=za hb4 (zc bc_2)
 have fz_3:∀ o,w4.frozen? ⟨w.heap.size + 1 + 1,o,none⟩=false:=fun o=>by rw [(zK hb4).2 _ _ (zd (zc ra_2)),xv (zd ra_2)];exact fz_2 o
 have hzra_3:w.heap.size + 1 + 1 < w4.heap.size:=zd ra_3
 have hB_3:=later (hB_2.alloc hB_2.size _) hb4
 clear ra_2 rb_2 rc_2 aa_2 ab_2 ac_2 ba_2 bb_2 bc_2 fz_2
 go_wp2
 refine bodyPost_ret (zl rfl rfl (by first | with_reducible exact zj ra_3 rb_3 rc_3 | with_reducible exact zb (zj ra_3 rb_3 rc_3) | with_reducible exact zb (zb (zj ra_3 rb_3 rc_3))) (Tryz.isAgg26 _) (Tryz.sizeOf26 _)) rfl ?_
 exact zx.mk rfl (by go_grown)
theorem zkv (a b:GV) (w:World) (ha:I64 a.i) (hb:I64 b.i) (hq:(a.ok && b.ok)=true) (hwh:vl a=false) (hwh2:vl b=false) (hnull:(a.k == 0 || b.k == 0)=false) (hk:(a.k != b.k)=false) (hs:a.s.size + b.s.size ≤ 9223372036854775807) :
  Calls Tryz.prog 141 #[a.val,b.val] w (zx (.tuple #[(⟨a.k,0,a.s ++ b.s⟩:GV).val,.int .i64 0]) w):=by
 have hc:=qf a b ha hb _ hq
 have hwa:=fun W=>w8 a W
 have hwb:=fun W=>w8 b W
 have hn:=jD a b _ hnull
 clear hnull
 unfold GV.val at *
 clear hq ha hb
 go_enter Tryz.func141,Tryz.ntmps141
 go_wp2_with fail
 refine (hc _ _ (VS.made [a,b] (by simp) rfl rfl (by simp))).mono ?_
 rintro e w1 ⟨rfl,hb1⟩
 have ra_0:=za hb1 (a:=⟨w.heap.size + 1 + 1,0,none⟩) (v:=.int .i64 0) (by simp [go_sem])
 have rb_0:=za hb1 (a:=⟨w.heap.size + 1 + 1,1,none⟩) (v:=.int .i64 0) (by simp [go_sem])
 have rc_0:=za hb1 (a:=⟨w.heap.size + 1 + 1,2,none⟩) (v:=.string ⟨#[]⟩) (by simp [go_sem])
 have aa_0:=za hb1 (a:=⟨w.heap.size,0,none⟩) (v:=.int .i64 a.k) (by simp [go_sem])
 have ab_0:=za hb1 (a:=⟨w.heap.size,1,none⟩) (v:=.int .i64 a.i) (by simp [go_sem])
 have ac_0:=za hb1 (a:=⟨w.heap.size,2,none⟩) (v:=.string a.s) (by simp [go_sem])
 have ba_0:=za hb1 (a:=⟨w.heap.size + 1,0,none⟩) (v:=.int .i64 b.k) (by simp [go_sem])
 have bb_0:=za hb1 (a:=⟨w.heap.size + 1,1,none⟩) (v:=.int .i64 b.i) (by simp [go_sem])
 have bc_0:=za hb1 (a:=⟨w.heap.size + 1,2,none⟩) (v:=.string b.s) (by simp [go_sem])
 have fz_0:∀ o,w1.frozen? ⟨w.heap.size + 1 + 1,o,none⟩=false:=fun o=>by rw [(zK hb1).2 _ _ (by simp)];simp [go_sem]
 have hzra_0:w.heap.size + 1 + 1 < w1.heap.size:=zd ra_0
 have hB_0:=later (w:=w) (by go_grown) hb1
 clear hb1 hc
 rw [hwh] at hwa
 rw [hwh2] at hwb
 clear hwh hwh2
 go_wp2_with fail
 refine (hwa _).mono ?_
 rintro e w2 ⟨rfl,hb2⟩
 have ra_1:=za hb2 ra_0
 have rb_1:=za hb2 rb_0
 have rc_1:=za hb2 rc_0
 have aa_1:=za hb2 aa_0
 have ab_1:=za hb2 ab_0
 have ac_1:=za hb2 ac_0
 have ba_1:=za hb2 ba_0
 have bb_1:=za hb2 bb_0
 have bc_1:=za hb2 bc_0
 have fz_1:∀ o,World.frozen? w2 ⟨w.heap.size + 1 + 1,o,none⟩=false:=fun o=>by rw [(zK hb2).2 _ _ (zd ra_0)];exact fz_0 o
 have hzra_1:w.heap.size + 1 + 1 < w2.heap.size:=zd ra_1
 have hB_1:=later hB_0 hb2
 clear ra_0 rb_0 rc_0 aa_0 ab_0 ac_0 ba_0 bb_0 bc_0 fz_0
 go_wp2_with fail
 refine (hwb _).mono ?_
 rintro e w3 ⟨rfl,hb3⟩
 have ra_2:=za hb3 ra_1
 have rb_2:=za hb3 rb_1
 have rc_2:=za hb3 rc_1
 have aa_2:=za hb3 aa_1
 have ab_2:=za hb3 ab_1
 have ac_2:=za hb3 ac_1
 have ba_2:=za hb3 ba_1
 have bb_2:=za hb3 bb_1
 have bc_2:=za hb3 bc_1
 have fz_2:∀ o,World.frozen? w3 ⟨w.heap.size + 1 + 1,o,none⟩=false:=fun o=>by rw [(zK hb3).2 _ _ (zd ra_1)];exact fz_1 o
 have hzra_2:w.heap.size + 1 + 1 < w3.heap.size:=zd ra_2
 have hB_2:=later hB_1 hb3
 clear ra_1 rb_1 rc_1 aa_1 ab_1 ac_1 ba_1 bb_1 bc_1 fz_1
 go_wp2_with fail
 refine (hn _ _ (VS.made [a,b] (by first | (with_reducible rfl) | simp | simp [go_sem]) rfl rfl (by simp))).mono ?_
 rintro e w4 ⟨rfl,hb4⟩
 have ra_3:=za hb4 (zc ra_2)
 have rb_3:=za hb4 (zc rb_2)
 have rc_3:=za hb4 (zc rc_2)
 have aa_3:=za hb4 (zc aa_2)
 have ab_3:=za hb4 (zc ab_2)
 have ac_3:=za hb4 (zc ac_2)
 have ba_3:=za hb4 (zc ba_2)
 have bb_3:=za hb4 (zc bb_2)
 have bc_3:=za hb4 (zc bc_2)
 have fz_3:∀ o,w4.frozen? ⟨w.heap.size + 1 + 1,o,none⟩=false:=fun o=>by rw [(zK hb4).2 _ _ (zd (zc ra_2)),xv (zd ra_2)];exact fz_2 o
 have hzra_3:w.heap.size + 1 + 1 < w4.heap.size:=zd ra_3
 have hB_3:=later (hB_2.alloc hB_2.size _) hb4
 clear ra_2 rb_2 rc_2 aa_2 ab_2 ac_2 ba_2 bb_2 bc_2 fz_2
 go_wp2
 refine bodyPost_ret (zl rfl rfl (by first | with_reducible exact zj ra_3 rb_3 rc_3 | with_reducible exact zb (zj ra_3 rb_3 rc_3) | with_reducible exact zb (zb (zj ra_3 rb_3 rc_3))) (Tryz.isAgg26 _) (Tryz.sizeOf26 _)) rfl ?_
 exact zx.mk rfl (by go_grown)
theorem yq (a b:GV) (w:World) (ha:I64 a.i) (hb:I64 b.i) (hs:a.s.size + b.s.size ≤ 9223372036854775807) :
  Calls Tryz.prog 141 #[a.val,b.val] w (zx (.tuple #[(Xi a b).1.val,.int .i64 (Xi a b).2]) w):=by
 unfold Xi
 cases hq:(a.ok && b.ok) with
 | false=>exact zil a b w ha hb hq
 | true =>
  cases h1:vl a with
  | true=>exact zav a b w ha hb hq h1
  | false =>
   cases h2:vl b with
   | true=>exact zae a b w ha hb hq h1 h2
   | false =>
    cases h3:(a.k == 0 || b.k == 0) with
    | true=>exact zeB a b w ha hb hq h1 h2 h3
    | false =>
     cases h4:(a.k != b.k) with
     | true=>exact zf1 a b w ha hb hq h1 h2 h3 h4
     | false=>exact zkv a b w ha hb hq h1 h2 h3 h4 hs
end Go.Proofs.YtifdakibkadfiaaGreatDoor
end
section
namespace Go.Proofs.YtifdakibkadfiaaGreatDoor
open Go.RowKit Go.Shelf Go
theorem zhy {l:List GV} (h:l.all GV.ok=true) {j:Nat} {x:GV} (hj:l[j]?=some x):0 ≤ x.k ∧ x.k ≤ 4:=by
 have hx:x ∈ l:=List.mem_of_getElem? hj
 have:=List.all_eq_true.1 h x hx
 unfold GV.ok at this
 simp only [Bool.or_eq_true,Bool.and_eq_true,beq_iff_eq] at this
 omega
theorem zbT (name:ByteArray) (w:World) (lo hi:Int) (is:Bool) (h:zW name.toList=(lo,hi,is)) :
  Calls Tryz.prog 124 #[.string name] w (zx (.tuple #[.int .i64 lo,.int .i64 hi,.bool is]) w):=by
 have:=Xd name w
 rw [h] at this
 exact this
theorem Z8 {name:List UInt8} {i:Nat} (h1:(name == qj)=false) (h2:(name == vd)=false) (hpos:posOf name=i) :
  zW name=((((zu.getD i []).length:Nat):Int),(((zu.getD i []).length:Nat):Int),true):=by
 unfold zW
 rw [if_neg (by simpa using h1),if_neg (by simpa using h2),hpos,if_neg (by omega),Int.toNat_natCast]
theorem JM (name:ByteArray) (i:Nat) (h1:(name.toList == qj)=false) (h2:(name.toList == vd)=false) (hpos:posOf name.toList=i) (l:List GV) (v:Value) (w:World) (hv:VS w v l) (hmax:zY w)
  (hi:∀ x,x ∈ l → I64 x.i) (hok:l.all GV.ok=true) (hlen:l.length=(zu.getD i []).length) (r:GV × Int)
  (hT:(∃ (j:Nat) (x:GV) (kd:Int),l[j]?=some x ∧ (zu.getD i [])[j]?=some kd ∧ zT x kd=true) → r=(GV.none,20))
  (hN:(∀ (j:Nat) (x:GV) (kd:Int),l[j]?=some x → (zu.getD i [])[j]?=some kd → zT x kd=false) → (l.any fun x=>x.k == 0)=true → r=(GV.none,0))
  (hD:(∀ (j:Nat) (x:GV) (kd:Int),l[j]?=some x → (zu.getD i [])[j]?=some kd → zT x kd=false) → (l.any fun x=>x.k == 0)=false → Vu i l r) :
  Calls Tryz.prog 86 #[.string name,v] w (zx (.tuple #[r.1.val,.int .i64 r.2]) w):=
 zdx name v l w hv _ _ true (fun W=>zbT name W _ _ _ (Z8 h1 h2 hpos)) (fun W hW=>by have:=vx v l W hW hi;rwa [hok] at this) hmax (by omega) (.inr (by omega)) h1 h2 i hpos hlen
  (fun j x hj=>zhy hok hj) r hT hN hD
theorem xn (name:ByteArray) (i:Nat) (h1:(name.toList == qj)=false) (h2:(name.toList == vd)=false) (hpos:posOf name.toList=i) (l:List GV) (v:Value) (w:World) (hv:VS w v l) (hmax:zY w)
  (hi:∀ x,x ∈ l → I64 x.i) (hok:l.all GV.ok=true) (hlen:l.length=(zu.getD i []).length)
  (hg:∀ (j:Nat) (x:GV) (kd:Int),l[j]?=some x → (zu.getD i [])[j]?=some kd → zT x kd=false) (hn:(l.any fun x=>x.k == 0)=false) (r:GV × Int) (hD:Vu i l r) :
  Calls Tryz.prog 86 #[.string name,v] w (zx (.tuple #[r.1.val,.int .i64 r.2]) w):=
 JM name i h1 h2 hpos l v w hv hmax hi hok hlen r (fun ⟨j,x,kd,hj,hk,hb⟩=>by rw [hg j x kd hj hk] at hb;cases hb) (fun _ h=>by rw [hn] at h;cases h) (fun _ _=>hD)
theorem KZ (x y z:GV) (hy:I64 y.i) (hz:I64 z.i) (hs:x.s.size ≤ 9223372036854775807):Vu 6 [x,y,z] (qJ x y.i z.i):=fun n W v _ _ hv =>
 ⟨_,_,rfl,enters_of Tryz.func200 (by kernel_rfl) rfl,zeY x y z v W hv hy hz hs⟩
theorem V9 (x y:GV) (hs:x.s.size < 4294967281):Vu 7 [x,y] (instrS x y):=fun n W v hm _ hv =>
 ⟨_,_,rfl,enters_of Tryz.func201 (by kernel_rfl) rfl,zis x y v W hv hs hm⟩
theorem Kh (x:GV):Vu 2 [x] (vK x):=fun n W v _ _ hv =>
 ⟨_,_,rfl,enters_of Tryz.func195 (by kernel_rfl) rfl,zgB x v W hv⟩
theorem zfT (x:GV):Vu 1 [x] (Vj x):=fun n W v _ _ hv =>
 ⟨_,_,rfl,enters_of Tryz.func194 (by kernel_rfl) rfl,zkl x v W hv⟩
theorem zhr (x:GV) (hx:I64 x.i):Vu 0 [x] (Yj x):=fun n W v _ _ hv =>
 ⟨_,_,rfl,enters_of Tryz.func193 (by kernel_rfl) rfl,zmf x v W hv hx⟩
theorem Q1 (s:ByteArray):(GV.text s).ok=true:=by unfold GV.ok GV.text;simp
theorem ze0 (n:Int):(GV.num n).ok=true:=by unfold GV.ok GV.num;rw [show (⟨#[]⟩:ByteArray).toList=[] from by rw [Go.ByteArray.toList_eq]];simp
def zmB (k kd:Int):Bool:=k != 0 && (bits BinOp.and IntKind.i64 (kd / 2 ^ k.toNat) 1 == 0)
theorem zne:zmB 3 24=false:=by decide +kernel
theorem k38:zmB 3 8=false:=by decide +kernel
theorem k24:zmB 2 4=false:=by decide +kernel
theorem WG (s:ByteArray):zT (GV.text s) 24=false:=zne
theorem zb5 (s:ByteArray):zT (GV.text s) 8=false:=k38
theorem zex (n:Int):zT (GV.num n) 4=false:=k24
def zgY:ByteArray:=⟨#[115,117,98,115,116,114]⟩
def zjx:ByteArray:=⟨#[105,110,115,116,114]⟩
def zfj:ByteArray:=⟨#[108,101,110,103,116,104]⟩
theorem Vc (s:ByteArray) (f n:Int) (v:Value) (w:World) (hv:VS w v [GV.text s,GV.num f,GV.num n]) (hmax:zY w) (hf:I64 f) (hn:I64 n) (hs:s.size ≤ 9223372036854775807) :
  Calls Tryz.prog 86 #[.string zgY,v] w (zx (.tuple #[(qJ (GV.text s) f n).1.val,.int .i64 (qJ (GV.text s) f n).2]) w):=by
 refine xn zgY 6 (by rw [Go.ByteArray.toList_eq];decide) (by rw [Go.ByteArray.toList_eq];decide) (by rw [Go.ByteArray.toList_eq];decide) [GV.text s,GV.num f,GV.num n] v w hv hmax (fun x hx=>?_) ?_ rfl (fun j x kd hj hk=>?_) rfl _ (KZ _ _ _ hf hn hs)
 ·simp only [List.mem_cons,List.not_mem_nil,or_false] at hx
  rcases hx with rfl | rfl | rfl
  ·unfold GV.text I64;simp
  ·exact hf
  ·exact hn
 ·simp [Q1,ze0]
 ·match j with
  | 0=>cases hj;cases hk;exact WG _
  | 1=>cases hj;cases hk;exact zex _
  | 2=>cases hj;cases hk;exact zex _
  | j + 3=>simp at hj
theorem V5 (s t:ByteArray) (v:Value) (w:World) (hv:VS w v [GV.text s,GV.text t]) (hmax:zY w) (hs:s.size < 4294967281) :
  Calls Tryz.prog 86 #[.string zjx,v] w (zx (.tuple #[(instrS (GV.text s) (GV.text t)).1.val,.int .i64 (instrS (GV.text s) (GV.text t)).2]) w):=by
 refine xn zjx 7 (by rw [Go.ByteArray.toList_eq];decide) (by rw [Go.ByteArray.toList_eq];decide) (by rw [Go.ByteArray.toList_eq];decide) [GV.text s,GV.text t] v w hv hmax (fun x hx=>?_) ?_ rfl (fun j x kd hj hk=>?_) rfl _ (V9 _ _ hs)
 ·simp only [List.mem_cons,List.not_mem_nil,or_false] at hx
  rcases hx with rfl | rfl <;> (unfold GV.text I64;simp)
 ·simp [Q1,ze0]
 ·match j with
  | 0=>cases hj;cases hk;exact zb5 _
  | 1=>cases hj;cases hk;exact zb5 _
  | j + 2=>simp at hj
theorem QZ (s:ByteArray) (v:Value) (w:World) (hv:VS w v [GV.text s]) (hmax:zY w) :
  Calls Tryz.prog 86 #[.string zfj,v] w (zx (.tuple #[(vK (GV.text s)).1.val,.int .i64 (vK (GV.text s)).2]) w):=by
 refine xn zfj 2 (by rw [Go.ByteArray.toList_eq];decide) (by rw [Go.ByteArray.toList_eq];decide) (by rw [Go.ByteArray.toList_eq];decide) [GV.text s] v w hv hmax (fun x hx=>?_) ?_ rfl (fun j x kd hj hk=>?_) rfl _ (Kh _)
 ·simp only [List.mem_cons,List.not_mem_nil,or_false] at hx
  subst hx;unfold GV.text I64;simp
 ·simp [Q1,ze0]
 ·match j with
  | 0=>cases hj;cases hk;exact WG _
  | j + 1=>simp at hj
end Go.Proofs.YtifdakibkadfiaaGreatDoor
end
