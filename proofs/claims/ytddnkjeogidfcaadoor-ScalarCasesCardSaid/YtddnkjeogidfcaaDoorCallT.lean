/-  scalar.Call at a function of the table. -/
import Derived.Test.YtddnkjeogidfcaaDoorCall
namespace Go.Proofs.YtddnkjeogidfcaaDoor
open Go.RowKit Go.Shelf Go

/-- An argument of a kind that the function does not take. -/
def badArg (x : GV) (kd : Int) : Bool := x.k != 0 && (bits BinOp.and IntKind.i64 (kd / 2 ^ x.k.toNat) 1 == 0)

/-- What the function does with these arguments, wherever the table lies. -/
def Does (i : Nat) (l : List GV) (r : GV × Int) : Prop := ∀ (n : Nat) (W : World) (v : Value), SomeMax W → FnTable W n → VS W v l → ∃ g cap, doV n i = .func (.func g) #[] cap ∧
  (∀ args w, (callFunc g args).run Tryd.prog w = .ok (.enter g args) w) ∧ Calls Tryd.prog g (#[v] ++ cap) W (Rets (.tuple #[r.1.val, .int .i64 r.2]) W)

set_option maxHeartbeats 1000000 in
theorem Call_table (name : ByteArray) (v : Value) (l : List GV) (w : World) (hv : VS w v l) (lo hi : Int) (is : Bool) (har : ∀ W, Calls Tryd.prog 20 #[.string name] W (Rets (.tuple #[.int .i64 lo, .int .i64 hi, .bool true]) W))
    (hck : ∀ W, VS W v l → Calls Tryd.prog 22 #[v] W (Rets (.bool true) W)) (hmax : SomeMax w) (hl : ¬ (l.length : Int) < lo) (hh : hi < 0 ∨ ¬ hi < (l.length : Int)) (e1 : (name.toList == [99, 111, 97, 108, 101, 115, 99, 101]) = false) (e2 : (name.toList == [110, 117, 108, 108, 105, 102]) = false) (i : Nat) (hpos : posOf name.toList = i) (hkl : l.length = (kindsOf.getD i []).length) (hk4 : ∀ (j : Nat) (x : GV), l[j]? = some x → 0 ≤ x.k ∧ x.k ≤ 4) (r : GV × Int)
    (hT : (∃ (j : Nat) (x : GV) (kd : Int), l[j]? = some x ∧ (kindsOf.getD i [])[j]? = some kd ∧ badArg x kd = true) → r = (GV.none, 20))
    (hN : (∀ (j : Nat) (x : GV) (kd : Int), l[j]? = some x → (kindsOf.getD i [])[j]? = some kd → badArg x kd = false) → (l.any fun x => x.k == 0) = true → r = (GV.none, 0))
    (hD : (∀ (j : Nat) (x : GV) (kd : Int), l[j]? = some x → (kindsOf.getD i [])[j]? = some kd → badArg x kd = false) → (l.any fun x => x.k == 0) = false → Does i l r) :
    Calls Tryd.prog 18 #[.string name, v] w (Rets (.tuple #[r.1.val, .int .i64 r.2]) w) := by
  have hv0 := Lib.hid hv
  obtain ⟨A, c, rfl, hlen, hcell⟩ := hv
  generalize hn : l.length = n at *
  have HN := Lib.hid hn; clear hn
  have hfind := fun W => scalar_find name W
  have HH : (0 ≤ hi) ∧ (¬ hi < (n : Int)) ∨ hi < 0 := by omega
  clear hh
  have HPO := Lib.hid hpos
  have hi9 : i < 9 := by have := (posOf_lt name.toList).1; omega
  have HT := Lib.hid hT; have HNN := Lib.hid hN; have HDD := Lib.hid hD
  have HKL := Lib.hid hkl
  have HK4 := Lib.hid hk4
  have HC := Lib.hid hcell
  have HMX := Lib.hid hmax
  clear hT hN hD hpos hkl hk4 hcell hmax
  go_enter Tryd.func18, Tryd.ntmps18
  go_wp2_with fail
  refine (har _).mono ?_
  rintro e w1 ⟨rfl, hb1⟩
  have r0 := cell_below hb1 (a := ⟨w.heap.size, 0, none⟩) (v := .int .i64 0) (by simp [go_sem])
  have r1 := cell_below hb1 (a := ⟨w.heap.size, 1, none⟩) (v := .int .i64 0) (by simp [go_sem])
  have r2 := cell_below hb1 (a := ⟨w.heap.size, 2, none⟩) (v := .string ⟨#[]⟩) (by simp [go_sem])
  have z1 : ∀ o, w1.frozen? ⟨w.heap.size, o, none⟩ = false := fun o => by rw [(bcell hb1).2 _ _ (by simp)]; simp [go_sem]
  have hB1 := later (w := w) (by go_grown) hb1
  clear hb1
  go_wp2_with fail
  refine (hck _ (hv0.out.below hB1)).mono ?_
  rintro e w2 ⟨rfl, hb2⟩
  have q0 := cell_below hb2 r0
  have q1 := cell_below hb2 r1
  have q2 := cell_below hb2 r2
  have hz : w.heap.size < w2.heap.size := lt_of_cell q0
  have z2 : ∀ o, w2.frozen? ⟨w.heap.size, o, none⟩ = false := fun o => by rw [(bcell hb2).2 _ _ (lt_of_cell r0)]; exact z1 o
  have hB := later hB1 hb2
  clear r0 r1 r2 z1 hB1 hb2 hck har
  rcases HH with ⟨hh0, hh1⟩ | hh1
  all_goals
    go_wp2_with fail
    refine (hfind _).mono ?_
    rintro e w3 ⟨hb3, ⟨hp, rfl⟩ | ⟨i', nt, hi', hp, hnt, ht, rfl⟩⟩
    · exfalso; have := HPO.out; omega
    have hii : i' = i := by have := HPO.out; omega
    subst hii
    clear hp hi'
    have hv3 := (hv0.out.below hB).below hb3
    obtain ⟨g, cap, hdo⟩ := doV_func nt i' hi9
    have p0 := cell_below hb3 q0
    have p1 := cell_below hb3 q1
    have p2 := cell_below hb3 q2
    have hz3 : w.heap.size < w3.heap.size := lt_of_cell p0
    have z3 : ∀ o, w3.frozen? ⟨w.heap.size, o, none⟩ = false := fun o => by rw [(bcell hb3).2 _ _ (lt_of_cell q0)]; exact z2 o
    have hB3 := later hB hb3
    have HTAB := Lib.hid ht
    have HV3 := Lib.hid hv3
    clear q0 q1 q2 z2 hz hB hb3 hfind ht hv3 hnt
    unfold kindsV
    rw [hdo]
    have HDO := Lib.hid hdo
    clear hdo
    have HKN : Hid ((kindsOf.getD i' []).length = n) := by have h1 := HKL.out; have h2 := HN.out; unfold Hid; omega
    rw [HKN.out]
    generalize hkb : nt + kindsAt.getD i' 0 = kb
    have HKB := Lib.hid hkb
    clear hkb
    generalize nameB i' = nm
    go_wp2_with fail
    have hB4 : Below w.heap.size w (w3.alloc (.cells #[.string nm, .slice (some ⟨kb, 0, none⟩) n n, .func (.func g) #[] cap] 55)) := hB3.alloc hB3.size _
    have HTAB4 : Hid (FnTable (w3.alloc (.cells #[.string nm, .slice (some ⟨kb, 0, none⟩) n n, .func (.func g) #[] cap] 55)) nt) := HTAB.out.below ((Below.refl _ _).alloc (Nat.le_refl _) _)
    have s1 : (w3.alloc (.cells #[.string nm, .slice (some ⟨kb, 0, none⟩) n n, .func (.func g) #[] cap] 55)).cell? ⟨w3.heap.size, 1, none⟩ = some (.slice (some ⟨kb, 0, none⟩) n n) := by simp [go_sem]
    have s2 : (w3.alloc (.cells #[.string nm, .slice (some ⟨kb, 0, none⟩) n n, .func (.func g) #[] cap] 55)).cell? ⟨w3.heap.size, 2, none⟩ = some (.func (.func g) #[] cap) := by simp [go_sem]
    have p0' := cell_alloc (o := (.cells #[.string nm, .slice (some ⟨kb, 0, none⟩) n n, .func (.func g) #[] cap] 55)) p0
    have p1' := cell_alloc (o := (.cells #[.string nm, .slice (some ⟨kb, 0, none⟩) n n, .func (.func g) #[] cap] 55)) p1
    have p2' := cell_alloc (o := (.cells #[.string nm, .slice (some ⟨kb, 0, none⟩) n n, .func (.func g) #[] cap] 55)) p2
    have z4 : ∀ o, (w3.alloc (.cells #[.string nm, .slice (some ⟨kb, 0, none⟩) n n, .func (.func g) #[] cap] 55)).frozen? ⟨w.heap.size, o, none⟩ = false := fun o => by
      rw [((bcell ((Below.refl _ w3).alloc (Nat.le_refl _) _)).2 _ _ hz3)]; exact z3 o
    generalize w3.alloc (.cells #[.string nm, .slice (some ⟨kb, 0, none⟩) n n, .func (.func g) #[] cap] 55) = w4 at *
    generalize w3.heap.size = fb at *
    clear p0 p1 p2 hz3 z3 hB3 HTAB HV3
    go_loopw [12, 13, 74] (fun _ _ s74 wr => ∃ k : Nat, k ≤ n ∧ s74 = .int .i64 k ∧ Below w4.heap.size w4 wr ∧ Hid (∀ (j : Nat) (x : GV) (kd : Int), j < k → l[j]? = some x → (kindsOf.getD i' [])[j]? = some kd → badArg x kd = false)) (fun _ _ s74 _ => n - (intOf s74).toNat)
    case atStart => exact ⟨0, Nat.zero_le _, rfl, Below.refl _ _, fun j x kd hj => absurd hj (Nat.not_lt_zero _)⟩
    case round =>
      obtain ⟨k, hk, rfl, hbr, hg⟩ := hrel
      have hBr := later hB4 hbr
      by_cases hlt : k < n
      · obtain ⟨x, hx⟩ : ∃ x, l[k]? = some x := ⟨_, List.getElem?_eq_getElem (by rw [HN.out]; exact hlt)⟩
        obtain ⟨kd, hkd⟩ : ∃ kd, (kindsOf.getD i' [])[k]? = some kd := ⟨_, List.getElem?_eq_getElem (by rw [HKN.out]; exact hlt)⟩
        obtain ⟨b, o, rfl, c0, c1, c2⟩ := HC.out k x hx
        have d0 := cell_below hBr c0
        have d1 := cell_below hBr c1
        have d2 := cell_below hBr c2
        have kc := cell_below hbr (HTAB4.out.kinds i' hi9 k kd hkd)
        rw [HKB.out] at kc
        have t1 := cell_below hbr s1
        have u0 := cell_below hbr p0'
        have u1 := cell_below hbr p1'
        have u2 := cell_below hbr p2'
        have hzr : w.heap.size < wr.heap.size := lt_of_cell u0
        have hzf : fb < wr.heap.size := lt_of_cell t1
        have hzk : kb < wr.heap.size := lt_of_cell kc
        have zr : ∀ o, wr.frozen? ⟨w.heap.size, o, none⟩ = false := fun o => by rw [(bcell hbr).2 _ _ (lt_of_cell p0')]; exact z4 o
        have hx4 := HK4.out k x hx
        have HX := Lib.hid hx; have HKD := Lib.hid hkd
        clear hx hkd c0 c1 c2 s1 s2 p0' p1' p2' z4
        by_cases hx0 : x.k = 0
        · have hne : (x.k != 0) = false := by rw [hx0]; rfl
          have HX0 := Lib.hid hx0
          clear hx0
          go_wp2_with fail
          go_quiet (fail)
          go_wp2_with fail
          go_roundw
          case rel =>
            go_light
            refine ⟨k + 1, by omega, by go_num, belowN (hbr.alloc hbr.size _) _, fun j y kd' hj hy hkd' => ?_⟩
            rcases Nat.lt_succ_iff_lt_or_eq.1 hj with h | rfl
            · exact hg.out j y kd' h hy hkd'
            · have := HX.out; rw [hy] at this; cases this
              unfold badArg; rw [hne]; rfl
          case measure => simp [intOf]; omega
        · have hne : (x.k != 0) = true := bne_iff_ne.2 hx0
          clear hx0
          cases hbit : (bits BinOp.and IntKind.i64 (kd / 2 ^ x.k.toNat) 1 == 0) with
          | true =>
            go_wp2_with fail
            go_quiet (fail)
            go_wp2_with fail
            refine bodyPost_ret (ret_cells3 rfl rfl (by with_reducible exact stored3 (cell_drewN (cell_alloc u0)) (cell_drewN (cell_alloc u1)) (cell_drewN (cell_alloc u2))) (Tryd.isAgg23 _) (Tryd.sizeOf23 _)) rfl ?_
            exact Rets.mk (by rw [HT.out ⟨k, x, kd, HX.out, HKD.out, by unfold badArg; rw [hne, hbit]; rfl⟩]; rfl) ((((belowN (hBr.alloc hBr.size _) _).setCell (Nat.le_refl _) _).setCell (Nat.le_refl _) _).setCell (Nat.le_refl _) _)
          | false =>
            go_wp2_with fail
            go_quiet (fail)
            go_wp2_with fail
            go_roundw
            case rel =>
              go_light
              refine ⟨k + 1, by omega, by go_num, belowN (hbr.alloc hbr.size _) _, fun j y kd' hj hy hkd' => ?_⟩
              rcases Nat.lt_succ_iff_lt_or_eq.1 hj with h | rfl
              · exact hg.out j y kd' h hy hkd'
              · have h1 := HX.out; rw [hy] at h1; cases h1
                have h2 := HKD.out; rw [hkd'] at h2; cases h2
                unfold badArg; rw [hbit, Bool.and_false]
            case measure => simp [intOf]; omega
      · have hkn : k = n := by omega
        have hall : ∀ (j : Nat) (x : GV) (kd : Int), l[j]? = some x → (kindsOf.getD i' [])[j]? = some kd → badArg x kd = false := fun j x kd hj hkd => hg.out j x kd (by have := (List.getElem?_eq_some_iff.1 hj).1; rw [HN.out] at this; omega) hj hkd
        have HALL := Lib.hid hall
        have t2 := cell_below hbr s2
        have u0 := cell_below hbr p0'
        have u1 := cell_below hbr p1'
        have u2 := cell_below hbr p2'
        have zr : ∀ o, wr.frozen? ⟨w.heap.size, o, none⟩ = false := fun o => by rw [(bcell hbr).2 _ _ (lt_of_cell p0')]; exact z4 o
        have hvr := hv0.out.below hBr
        have htr := HTAB4.out.below hbr
        have hmr := HMX.out.below hBr
        have hnu := scalar_null _ l wr hvr
        clear hall hg s1 s2 p0' p1' p2' z4 hbr
        cases hany : (l.any fun x => x.k == 0) with
        | true =>
          rw [hany] at hnu
          have HANY := Lib.hid hany
          clear hany htr hvr hmr
          go_wp2_with fail
          refine hnu.mono ?_
          rintro e w5 ⟨rfl, hb5⟩
          have p0 := cell_below hb5 u0
          have p1 := cell_below hb5 u1
          have p2 := cell_below hb5 u2
          have hz5 : w.heap.size < w5.heap.size := lt_of_cell p0
          have z5 : ∀ o, w5.frozen? ⟨w.heap.size, o, none⟩ = false := fun o => by rw [(bcell hb5).2 _ _ (lt_of_cell u0)]; exact zr o
          have hB5 := later hBr hb5
          clear u0 u1 u2 zr hnu hb5 hBr
          go_wp2
          refine bodyPost_ret (ret_cells3 rfl rfl (by with_reducible exact stored3 p0 p1 p2) (Tryd.isAgg23 _) (Tryd.sizeOf23 _)) rfl ?_
          exact Rets.mk (by rw [HNN.out HALL.out HANY.out]; rfl) (by go_grown)
        | false =>
          rw [hany] at hnu
          have hdoes := HDD.out HALL.out hany
          have HANY := Lib.hid hany
          clear hany
          go_wp2_with fail
          refine hnu.mono ?_
          rintro e w5 ⟨rfl, hb5⟩
          have p0 := cell_below hb5 u0
          have p1 := cell_below hb5 u1
          have p2 := cell_below hb5 u2
          have t5 := cell_below hb5 t2
          have hz5 : w.heap.size < w5.heap.size := lt_of_cell p0
          have hz5f : fb < w5.heap.size := lt_of_cell t5
          have z5 : ∀ o, w5.frozen? ⟨w.heap.size, o, none⟩ = false := fun o => by rw [(bcell hb5).2 _ _ (lt_of_cell u0)]; exact zr o
          have hB5 := later hBr hb5
          obtain ⟨g', cap', hd, eg, hc⟩ := hdoes nt w5 _ (hmr.below hb5) (htr.below hb5) (hvr.below hb5)
          rw [HDO.out] at hd
          simp only [Value.func.injEq, Fn.func.injEq, true_and] at hd
          obtain ⟨rfl, rfl⟩ := hd
          clear u0 u1 u2 t2 zr hnu hb5 hBr htr hvr hmr hdoes
          unfold GV.val at hc ⊢
          go_wp2_with fail
          refine hc.mono ?_
          rintro e w6 ⟨rfl, hb6⟩
          have n0 := cell_below hb6 p0
          have n1 := cell_below hb6 p1
          have n2 := cell_below hb6 p2
          have hz6 : w.heap.size < w6.heap.size := lt_of_cell n0
          have z6 : ∀ o, w6.frozen? ⟨w.heap.size, o, none⟩ = false := fun o => by rw [(bcell hb6).2 _ _ (lt_of_cell p0)]; exact z5 o
          have hB6 := later hB5 hb6
          clear p0 p1 p2 t5 hz5 hz5f z5 hB5 hb6 hc eg
          go_wp2
          refine bodyPost_ret (ret_cells3 rfl rfl (by with_reducible exact stored3 n0 n1 n2) (Tryd.isAgg23 _) (Tryd.sizeOf23 _)) rfl ?_
          exact Rets.mk rfl (by go_grown)
end Go.Proofs.YtddnkjeogidfcaaDoor
