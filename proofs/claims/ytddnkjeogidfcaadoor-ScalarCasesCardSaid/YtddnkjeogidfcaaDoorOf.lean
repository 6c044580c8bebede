/-  scalar.text; scalar.of's closure over any function of texts; the one of trim. -/
import Derived.Test.YtddnkjeogidfcaaDoorCallFn
namespace Go.Proofs.YtddnkjeogidfcaaDoor
open Go.RowKit Go.Shelf Go

set_option maxHeartbeats 400000 in
theorem scalar_text (s : ByteArray) (w : World) :
    Calls Tryd.prog 63 #[.string s] w (Rets (GV.text s).val w) := by
  unfold GV.val GV.text
  go_enter Tryd.func63, Tryd.ntmps63
  go_wp2
  go_returns
  exact Rets.mk rfl (by go_grown)

set_option maxHeartbeats 400000 in
theorem trim_4 (s : ByteArray) (w : World) (hs : s.size ≤ 9223372036854775807) :
    Calls Tryd.prog 52 #[.string s] w (Rets (.string ⟨(Lib.trimB s.data.toList 32).toArray⟩) w) := by
  have ht := fun W => Tryd.strings_Trim_one s 32 (by decide) W hs
  clear hs
  go_enter Tryd.func52, Tryd.ntmps52
  go_wp2_with fail
  refine (ht _).mono ?_
  rintro e w1 ⟨rfl, rfl | rfl⟩
  · go_wp2
    go_returns
    exact Rets.mk rfl (Below.refl _ _)
  · go_wp2
    go_returns
    exact Rets.mk rfl (by go_grown)

set_option maxHeartbeats 1000000 in
theorem of_1 (g : Nat) (cap : Array Value) (eg : ∀ args w, (callFunc g args).run Tryd.prog w = .ok (.enter g args) w) (x : GV) (y : ByteArray) (b : Nat) (v : Value) (w : World) (hv : VS w v [x]) (hb : w.cell? ⟨b, 0, none⟩ = some (.func (.func g) #[] cap))
    (hg : ∀ W, Below w.heap.size w W → Calls Tryd.prog g (#[.string x.s] ++ cap) W (Rets (.string y) W)) :
    Calls Tryd.prog 62 #[v, .pointer (some ⟨b, 0, none⟩)] w (Rets (.tuple #[(GV.text y).val, .int .i64 0]) w) := by
  obtain ⟨p, o, c, rfl, hc⟩ := hv.row (by simp)
  obtain ⟨x0, x1, x2⟩ := hc 0 x rfl
  rw [Nat.zero_mul, Nat.add_zero] at x0 x1 x2
  have hp : p < w.heap.size := lt_of_cell x0
  have hbz : b < w.heap.size := lt_of_cell hb
  have hbz2 : b < w.heap.size + 1 := by omega
  have hp2 : p < w.heap.size + 1 := by omega
  have hn := fun W => scalar_text y W
  unfold GV.val GV.text at hn
  unfold GV.val GV.text
  clear hc
  simp only [List.length_cons, List.length_nil, Nat.zero_add]
  go_enter Tryd.func62, Tryd.ntmps62
  go_wp2_with fail
  have r0 : (w.alloc zeroGV).cell? ⟨w.heap.size, 0, none⟩ = some (.int .i64 0) := by simp [go_sem, zeroGV]
  have r1 : (w.alloc zeroGV).cell? ⟨w.heap.size, 1, none⟩ = some (.int .i64 0) := by simp [go_sem, zeroGV]
  have r2 : (w.alloc zeroGV).cell? ⟨w.heap.size, 2, none⟩ = some (.string ⟨#[]⟩) := by simp [go_sem, zeroGV]
  have hB : Below w.heap.size w (w.alloc zeroGV) := (Below.refl _ _).alloc (Nat.le_refl _) _
  refine wp_region_later_tail 7 (by kernel_rfl) (by kernel_rfl) (by kernel_rfl) ?_
  simp only [List.take_succ_cons, List.take_zero, List.drop_succ_cons, List.drop_zero]
  repeat (go_big_quiet_step (first
    | exact Calls.quiet_later (hg _ (later hB (laterW_below _ _))) (fun _ _ h => h)
    | exact Calls.quiet_later (hn _) (fun _ _ h => h)))
  refine wpQuiet_nil ?_
  rintro w1 ⟨u, rfl⟩
  have hb1 := laterW_below _ u
  generalize laterW _ u = w1 at *
  have q0 := cell_below hb1 r0
  have q1 := cell_below hb1 r1
  have q2 := cell_below hb1 r2
  have hz1 : w.heap.size < w1.heap.size := lt_of_cell q0
  have f1 : ∀ o, w1.frozen? ⟨w.heap.size, o, none⟩ = false := fun o => by rw [(bcell hb1).2 _ _ (lt_of_cell r0)]; simp [go_sem, zeroGV]
  have hB1 := later hB hb1
  clear r0 r1 r2 hB hb1
  go_wp2
  refine bodyPost_ret (ret_cells3 rfl rfl (by with_reducible exact stored3 q0 q1 q2) (Tryd.isAgg23 _) (Tryd.sizeOf23 _)) rfl ?_
  exact Rets.mk rfl (((hB1.setCell (Nat.le_refl _) _).setCell (Nat.le_refl _) _).setCell (Nat.le_refl _) _)

def trimS (x : GV) : GV × Int := (GV.text ⟨(Lib.trimB x.s.data.toList 32).toArray⟩, 0)
theorem does_trim (x : GV) (hs : x.s.size ≤ 9223372036854775807) : Does 5 [x] (trimS x) := fun n W v _ ht hv =>
  ⟨_, _, rfl, enters_of Tryd.func62 (by kernel_rfl) rfl, of_1 52 #[] (enters_of Tryd.func52 (by kernel_rfl) rfl) x _ _ v W hv ht.trim (fun W' _ => trim_4 x.s W' hs)⟩
end Go.Proofs.YtddnkjeogidfcaaDoor
