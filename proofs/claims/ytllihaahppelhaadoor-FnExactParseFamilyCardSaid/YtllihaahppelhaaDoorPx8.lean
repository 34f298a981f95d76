/- Calls of the functions of the given program return what the plain Lean functions of the same names return; and a row of a law out of its pure statement. Written by a program of this session out of the translation; Lean checks it. No condition. -/
import Derived.Test.YtllihaahppelhaaDoorPx0
import Derived.Test.YtllihaahppelhaaDoorPx3
import Derived.Test.YtllihaahppelhaaDoorPxHimplqKinqparents
namespace Go.Proofs.YtllihaahppelhaaDoor.P
open Go.RowKit Go.Proofs.YtllihaahppelhaaDoorW.PrintWords Go.Proofs.YtllihaahppelhaaDoorW.PrintLast Go.Proofs.YtllihaahppelhaaDoorW.PrintMore
attribute [local go_sem] max2_int min2_int max_two min_two max_three min_three max_four min_four   -- for this text's walks alone
set_option linter.unusedVariables false
set_option linter.unusedSimpArgs false

/-! ### impl_IsFamily: function 17 -/
mutual
def impl_IsFamily.l0 : Nat → List (S37) → List (S37) → Int → Int → Option (Bool)
  | 0, _, _, _, _ => none
  | k + 1, x0, x11, x12, x13 => if x13 < x12 then (if 0 ≤ x13 then (if x13 < (x11.length : Int) then ((impl_between.f ((rd_T37 x11 x13).f0) 0 3000).bind fun t176 => (if t176 = true then ((impl_between.f ((rd_T37 x11 x13).f1) (-1) (wrap64 (x13 - 1))).bind fun t177 => (if t177 = true then ((impl_between.f ((rd_T37 x11 x13).f2) (-1) (wrap64 (x13 - 1))).bind fun t178 => (if t178 = true then (if ((rd_T37 x11 x13).f2) ≥ 0 then (if ((rd_T37 x11 x13).f2) ≤ ((rd_T37 x11 x13).f1) then (impl_IsFamily.j1 k x0 x11 x12 x13 true ((rd_T37 x11 x13).f0) ((rd_T37 x11 x13).f1) ((rd_T37 x11 x13).f2)) else (if ((rd_T37 x11 x13).f1) < 0 then (impl_IsFamily.j1 k x0 x11 x12 x13 (decide (((rd_T37 x11 x13).f2) ≥ 0)) ((rd_T37 x11 x13).f0) ((rd_T37 x11 x13).f1) ((rd_T37 x11 x13).f2)) else (impl_IsFamily.j1 k x0 x11 x12 x13 false ((rd_T37 x11 x13).f0) ((rd_T37 x11 x13).f1) ((rd_T37 x11 x13).f2)))) else (if ((rd_T37 x11 x13).f1) < 0 then (impl_IsFamily.j1 k x0 x11 x12 x13 (decide (((rd_T37 x11 x13).f2) ≥ 0)) ((rd_T37 x11 x13).f0) ((rd_T37 x11 x13).f1) ((rd_T37 x11 x13).f2)) else (impl_IsFamily.j1 k x0 x11 x12 x13 false ((rd_T37 x11 x13).f0) ((rd_T37 x11 x13).f1) ((rd_T37 x11 x13).f2)))) else (impl_IsFamily.j1 k x0 x11 x12 x13 true ((rd_T37 x11 x13).f0) ((rd_T37 x11 x13).f1) ((rd_T37 x11 x13).f2)))) else (impl_IsFamily.j1 k x0 x11 x12 x13 true ((rd_T37 x11 x13).f0) ((rd_T37 x11 x13).f1) ((rd_T37 x11 x13).f2)))) else (impl_IsFamily.j1 k x0 x11 x12 x13 true ((rd_T37 x11 x13).f0) ((rd_T37 x11 x13).f1) ((rd_T37 x11 x13).f2)))) else (none)) else (none)) else (some true)
def impl_IsFamily.j1 : Nat → List (S37) → List (S37) → Int → Int → Bool → Int → Int → Int → Option (Bool)
  | 0, _, _, _, _, _, _, _, _ => none
  | k + 1, x0, x11, x12, x13, x59, x176000, x176001, x176002 => if x59 = true then (some false) else ((impl_Kin_parents.f x176000 x176001 x176002).bind fun t179 => (impl_IsFamily.l1 k x0 x11 x12 x13 t179 (t179.length : Int) 0 x176000 x176001 x176002))
def impl_IsFamily.l1 : Nat → List (S37) → List (S37) → Int → Int → List Int → Int → Int → Int → Int → Int → Option (Bool)
  | 0, _, _, _, _, _, _, _, _, _, _ => none
  | k + 1, x0, x11, x12, x13, x61, x62, x63, x176000, x176001, x176002 => if x63 < x62 then (if 0 ≤ x63 then (if x63 < (x61.length : Int) then (if 0 ≤ (rd x61 x63) then (if (rd x61 x63) < (x0.length : Int) then (if (wrap64 (((rd_T37 x0 (rd x61 x63)).f0) + 14)) > x176000 then (some false) else (impl_IsFamily.l1 k x0 x11 x12 x13 x61 x62 (wrap64 (x63 + 1)) x176000 x176001 x176002)) else (none)) else (none)) else (none)) else (none)) else (impl_IsFamily.l0 k x0 x11 x12 (wrap64 (x13 + 1)))
end
def impl_IsFamily.f (k : Nat) (l0 : List (S37)) : Option (Bool) := (impl_between.f (l0.length : Int) 1 14).bind fun t173 => (if t173 = true then (impl_IsFamily.l0 k l0 l0 (l0.length : Int) 0) else (some false))
theorem impl_IsFamily.mono_l : ∀ k, (∀ y0 y1 y2 y3, LeO (impl_IsFamily.l0 k y0 y1 y2 y3) (impl_IsFamily.l0 (k + 1) y0 y1 y2 y3)) ∧ (∀ y0 y1 y2 y3 y4 y5 y6 y7, LeO (impl_IsFamily.j1 k y0 y1 y2 y3 y4 y5 y6 y7) (impl_IsFamily.j1 (k + 1) y0 y1 y2 y3 y4 y5 y6 y7)) ∧ (∀ y0 y1 y2 y3 y4 y5 y6 y7 y8 y9, LeO (impl_IsFamily.l1 k y0 y1 y2 y3 y4 y5 y6 y7 y8 y9) (impl_IsFamily.l1 (k + 1) y0 y1 y2 y3 y4 y5 y6 y7 y8 y9))
  | 0 => ⟨fun _ _ _ _ r h => by simp [impl_IsFamily.l0] at h, fun _ _ _ _ _ _ _ _ r h => by simp [impl_IsFamily.j1] at h, fun _ _ _ _ _ _ _ _ _ _ r h => by simp [impl_IsFamily.l1] at h⟩
  | k + 1 => by
    obtain ⟨ih0, ih1, ih2⟩ := impl_IsFamily.mono_l k
    refine ⟨?_, ?_, ?_⟩
    · intro y0 y1 y2 y3
      unfold impl_IsFamily.l0
      repeat' first
      | (with_reducible exact ih0 _ _ _ _)
      | (with_reducible exact ih1 _ _ _ _ _ _ _ _)
      | (with_reducible exact ih2 _ _ _ _ _ _ _ _ _ _)
      | (with_reducible exact LeO.refl _)
      | (with_reducible exact LeO.none _)
      | (with_reducible refine LeO.ite ?_ ?_)
      | (with_reducible refine LeO.bind ?_ (fun _ => ?_))
      | exact ih0 _ _ _ _
      | exact ih1 _ _ _ _ _ _ _ _
      | exact ih2 _ _ _ _ _ _ _ _ _ _
      | exact LeO.none _
      | refine LeO.ite ?_ ?_
      | refine LeO.bind ?_ (fun _ => ?_)
    · intro y0 y1 y2 y3 y4 y5 y6 y7
      unfold impl_IsFamily.j1
      repeat' first
      | (with_reducible exact ih0 _ _ _ _)
      | (with_reducible exact ih1 _ _ _ _ _ _ _ _)
      | (with_reducible exact ih2 _ _ _ _ _ _ _ _ _ _)
      | (with_reducible exact LeO.refl _)
      | (with_reducible exact LeO.none _)
      | (with_reducible refine LeO.ite ?_ ?_)
      | (with_reducible refine LeO.bind ?_ (fun _ => ?_))
      | exact ih0 _ _ _ _
      | exact ih1 _ _ _ _ _ _ _ _
      | exact ih2 _ _ _ _ _ _ _ _ _ _
      | exact LeO.none _
      | refine LeO.ite ?_ ?_
      | refine LeO.bind ?_ (fun _ => ?_)
    · intro y0 y1 y2 y3 y4 y5 y6 y7 y8 y9
      unfold impl_IsFamily.l1
      repeat' first
      | (with_reducible exact ih0 _ _ _ _)
      | (with_reducible exact ih1 _ _ _ _ _ _ _ _)
      | (with_reducible exact ih2 _ _ _ _ _ _ _ _ _ _)
      | (with_reducible exact LeO.refl _)
      | (with_reducible exact LeO.none _)
      | (with_reducible refine LeO.ite ?_ ?_)
      | (with_reducible refine LeO.bind ?_ (fun _ => ?_))
      | exact ih0 _ _ _ _
      | exact ih1 _ _ _ _ _ _ _ _
      | exact ih2 _ _ _ _ _ _ _ _ _ _
      | exact LeO.none _
      | refine LeO.ite ?_ ?_
      | refine LeO.bind ?_ (fun _ => ?_)
theorem impl_IsFamily.mono : ∀ a0 k, LeO (impl_IsFamily.f k a0) (impl_IsFamily.f (k + 1) a0) := by
  intro a0 k
  obtain ⟨ih0, ih1, ih2⟩ := impl_IsFamily.mono_l k
  unfold impl_IsFamily.f
  repeat' first
      | (with_reducible exact ih0 _ _ _ _)
      | (with_reducible exact ih1 _ _ _ _ _ _ _ _)
      | (with_reducible exact ih2 _ _ _ _ _ _ _ _ _ _)
      | (with_reducible exact LeO.refl _)
      | (with_reducible exact LeO.none _)
      | (with_reducible refine LeO.ite ?_ ?_)
      | (with_reducible refine LeO.bind ?_ (fun _ => ?_))
      | exact ih0 _ _ _ _
      | exact ih1 _ _ _ _ _ _ _ _
      | exact ih2 _ _ _ _ _ _ _ _ _ _
      | exact LeO.none _
      | refine LeO.ite ?_ ?_
      | refine LeO.bind ?_ (fun _ => ?_)
set_option maxHeartbeats 8000000 in
set_option maxRecDepth 100000 in
theorem impl_IsFamily.calls (k : Nat) (A0 : Option Addr) (c0 : Nat) (l0 : List (S37)) (r : Bool) (w : World) (hr0 : Kd.C k37 w A0 l0.length l0) (hc0 : l0.length ≤ c0) (h : impl_IsFamily.f k l0 = some r) :
    Calls Tryd.prog 17 #[.slice A0 l0.length c0] w fun e w' => e = .returned (.bool r) ∧ Below w.heap.size w w' := by
  have hu37 := Tryd.underlying37
  have HR0 := Aside0.mk hr0
  have HC0 := Aside0.mk hc0
  clear hr0 hc0
  have HB := Aside0.mk (Below.refl w.heap.size w)
  have H : ((impl_between.f (l0.length : Int) 1 14).bind fun t173 => (if t173 = true then (impl_IsFamily.l0 k l0 l0 (l0.length : Int) 0) else (some false))) = some r := h
  clear h
  replace H := Option.bind_eq_some_iff.mp H
  obtain ⟨t173, A20, H⟩ := H
  replace H : (if t173 = true then (impl_IsFamily.l0 k l0 l0 (l0.length : Int) 0) else (some false)) = some r := H
  have A2 := Aside0.mk A20
  clear A20
  by_cases c3 : t173 = true
  · subst c3
    have H1 : (impl_IsFamily.l0 k l0 l0 (l0.length : Int) 0) = some r := by rw [if_pos rfl] at H; exact H
    clear H
    have H := H1
    clear H1
    have H' := Aside0.mk H
    clear H
    go_enter Tryd.func17, Tryd.ntmps17
    go_wp2_with (first | (go_at_call 28; (with_reducible refine (impl_between.calls (l0.length : Int) 1 14 true _ A2.out).mono ?_); rintro e w' ⟨rfl, ⟨nd, rfl⟩⟩; (try first | exact ⟨rfl, _, World.drewN_drewN _ _ _⟩ | exact ⟨rfl, _, Eq.trans (World.drewN_drewN _ _ _) (congrArg (World.drewN _) (Nat.add_assoc _ _ _))⟩)))
    repeat (go_quiet (first | (go_at_call 28; (with_reducible refine (impl_between.calls (l0.length : Int) 1 14 true _ A2.out).mono ?_); rintro e w' ⟨rfl, ⟨nd, rfl⟩⟩; (try first | exact ⟨rfl, _, World.drewN_drewN _ _ _⟩ | exact ⟨rfl, _, Eq.trans (World.drewN_drewN _ _ _) (congrArg (World.drewN _) (Nat.add_assoc _ _ _))⟩))); try go_wp2_with (first | (go_at_call 28; (with_reducible refine (impl_between.calls (l0.length : Int) 1 14 true _ A2.out).mono ?_); rintro e w' ⟨rfl, ⟨nd, rfl⟩⟩; (try first | exact ⟨rfl, _, World.drewN_drewN _ _ _⟩ | exact ⟨rfl, _, Eq.trans (World.drewN_drewN _ _ _) (congrArg (World.drewN _) (Nat.add_assoc _ _ _))⟩))))
    go_loopg [13] k (fun kq v13 w' => ∃ (x13_1 : Int), v13 = .int .i64 x13_1 ∧ Aside0 (impl_IsFamily.l0 kq l0 l0 (l0.length : Int) x13_1 = some r) ∧ Aside0 (kq ≤ k) ∧ Aside0 (Below w.heap.size w w'))
    case atStart => exact ⟨(0), (by first | rfl | (simp; done) | (simp [*]; done)), H', ⟨Nat.le_refl _⟩, ⟨by repeat (first | (with_reducible first | exact HB.out | apply below_alloc | apply pw_below_drewN | apply below_drew1) | exact HB.out)⟩⟩
    case round =>
      clear H'
      try clear c1
      try clear p2
      try clear c3
      obtain ⟨x13_1, rfl, HA, HK1, HB⟩ := hrel
      cases gk with
      | zero => exact absurd HA.out (by simp [impl_IsFamily.l0])
      | succ k1 =>
        have H := HA.out
        clear HA
        simp only [impl_IsFamily.l0] at H
        by_cases c4 : x13_1 < (l0.length : Int)
        · rw [if_pos c4] at H
          have c4b0 : decide (x13_1 < (l0.length : Int)) = true := decide_eq_true c4
          clear c4
          by_cases c5 : 0 ≤ x13_1
          · rw [if_pos c5] at H
            have c5b0 : decide (0 ≤ x13_1) = true := decide_eq_true c5
            clear c5
            by_cases c6 : x13_1 < (l0.length : Int)
            · rw [if_pos c6] at H
              have c6b0 : decide (x13_1 < (l0.length : Int)) = true := decide_eq_true c6
              clear c6
              have HC7 := Aside0.mk H
              clear H
              have p174 : 0 ≤ (x13_1 : Int) := of_decide_eq_true (by first | (with_reducible assumption) | assumption)
              have q174 : x13_1 < (l0.length : Int) := of_decide_eq_true (by first | (with_reducible assumption) | assumption)
              obtain ⟨ad174, e174, hx174_0, hx174_1, hx174_2⟩ := at_T37 HR0.out x13_1 p174 q174
              cases e174
              replace hx174_0 := (HB.out.cell (World.block_lt_of_cell? w _ hx174_0)).trans hx174_0
              replace hx174_1 := (HB.out.cell (World.block_lt_of_cell? w _ hx174_1)).trans hx174_1
              replace hx174_2 := (HB.out.cell (World.block_lt_of_cell? w _ hx174_2)).trans hx174_2
              replace p174 := eq_true p174
              replace q174 := eq_true q174
              go_upto_region 6 with (first | ((with_reducible refine gate_dst (N := 4) rfl ?_); refine box_event ?hg (N := 4) ?hd (cs := #[.int .i64 0, .int .i64 0, .int .i64 0]) (t := 37) ?hr ?_; (case hd => rfl); (case hg => rfl); (case hr => first | (go_simp; done) | (go_simp; rfl)); intro gb175 hg w8 hbox hb; have n0_ := Aside0.mk (below_step (by repeat (first | (with_reducible first | exact HB.out | apply below_alloc | apply pw_below_drewN | apply below_drew1) | exact HB.out)) hb); have n1_ := Aside0.mk (hbox); have n2_ := Aside0.mk ((by rw [hg]; exact (below_size (by repeat (first | (with_reducible first | exact HB.out | apply below_alloc | apply pw_below_drewN | apply below_drew1) | exact HB.out))) : w.heap.size ≤ gb175)); have n3_ := Aside0.mk ((by rw [hg]; exact (below_size (by repeat (first | (with_reducible first | exact HB.out | apply below_alloc | apply pw_below_drewN | apply below_drew1) | exact HB.out))) : w.heap.size ≤ gb175)); clear HB; have HB := n0_; have BK175 := n1_; have GW175 := n2_; have GE175 := n3_; clear n0_ n1_ n2_ n3_; clear hb hbox hg; have hcz9_0 : w8.cell? ⟨gb175, 0, none⟩ = some (.int .i64 0) := (blk_cell BK175.out 0).trans rfl; have hcz9_1 : w8.cell? ⟨gb175, 1, none⟩ = some (.int .i64 0) := (blk_cell BK175.out 1).trans rfl; have hcz9_2 : w8.cell? ⟨gb175, 2, none⟩ = some (.int .i64 0) := (blk_cell BK175.out 2).trans rfl; have hfz9_0 := blk_frozen BK175.out 0; have hfz9_1 := blk_frozen BK175.out 1; have hfz9_2 := blk_frozen BK175.out 2))
              repeat (go_quiet (first | ((with_reducible refine gate_dst (N := 4) rfl ?_); refine box_event ?hg (N := 4) ?hd (cs := #[.int .i64 0, .int .i64 0, .int .i64 0]) (t := 37) ?hr ?_; (case hd => rfl); (case hg => rfl); (case hr => first | (go_simp; done) | (go_simp; rfl)); intro gb175 hg w8 hbox hb; have n0_ := Aside0.mk (below_step (by repeat (first | (with_reducible first | exact HB.out | apply below_alloc | apply pw_below_drewN | apply below_drew1) | exact HB.out)) hb); have n1_ := Aside0.mk (hbox); have n2_ := Aside0.mk ((by rw [hg]; exact (below_size (by repeat (first | (with_reducible first | exact HB.out | apply below_alloc | apply pw_below_drewN | apply below_drew1) | exact HB.out))) : w.heap.size ≤ gb175)); have n3_ := Aside0.mk ((by rw [hg]; exact (below_size (by repeat (first | (with_reducible first | exact HB.out | apply below_alloc | apply pw_below_drewN | apply below_drew1) | exact HB.out))) : w.heap.size ≤ gb175)); clear HB; have HB := n0_; have BK175 := n1_; have GW175 := n2_; have GE175 := n3_; clear n0_ n1_ n2_ n3_; clear hb hbox hg; have hcz9_0 : w8.cell? ⟨gb175, 0, none⟩ = some (.int .i64 0) := (blk_cell BK175.out 0).trans rfl; have hcz9_1 : w8.cell? ⟨gb175, 1, none⟩ = some (.int .i64 0) := (blk_cell BK175.out 1).trans rfl; have hcz9_2 : w8.cell? ⟨gb175, 2, none⟩ = some (.int .i64 0) := (blk_cell BK175.out 2).trans rfl; have hfz9_0 := blk_frozen BK175.out 0; have hfz9_1 := blk_frozen BK175.out 1; have hfz9_2 := blk_frozen BK175.out 2)); go_upto_region 6 with (first | ((with_reducible refine gate_dst (N := 4) rfl ?_); refine box_event ?hg (N := 4) ?hd (cs := #[.int .i64 0, .int .i64 0, .int .i64 0]) (t := 37) ?hr ?_; (case hd => rfl); (case hg => rfl); (case hr => first | (go_simp; done) | (go_simp; rfl)); intro gb175 hg w8 hbox hb; have n0_ := Aside0.mk (below_step (by repeat (first | (with_reducible first | exact HB.out | apply below_alloc | apply pw_below_drewN | apply below_drew1) | exact HB.out)) hb); have n1_ := Aside0.mk (hbox); have n2_ := Aside0.mk ((by rw [hg]; exact (below_size (by repeat (first | (with_reducible first | exact HB.out | apply below_alloc | apply pw_below_drewN | apply below_drew1) | exact HB.out))) : w.heap.size ≤ gb175)); have n3_ := Aside0.mk ((by rw [hg]; exact (below_size (by repeat (first | (with_reducible first | exact HB.out | apply below_alloc | apply pw_below_drewN | apply below_drew1) | exact HB.out))) : w.heap.size ≤ gb175)); clear HB; have HB := n0_; have BK175 := n1_; have GW175 := n2_; have GE175 := n3_; clear n0_ n1_ n2_ n3_; clear hb hbox hg; have hcz9_0 : w8.cell? ⟨gb175, 0, none⟩ = some (.int .i64 0) := (blk_cell BK175.out 0).trans rfl; have hcz9_1 : w8.cell? ⟨gb175, 1, none⟩ = some (.int .i64 0) := (blk_cell BK175.out 1).trans rfl; have hcz9_2 : w8.cell? ⟨gb175, 2, none⟩ = some (.int .i64 0) := (blk_cell BK175.out 2).trans rfl; have hfz9_0 := blk_frozen BK175.out 0; have hfz9_1 := blk_frozen BK175.out 1; have hfz9_2 := blk_frozen BK175.out 2)))
              (try simp only [Act.put, List.setIfInBounds_toArray, List.set_cons_zero, List.set_cons_succ])
              go_cut [59] (fun v59 wc => ∃ (kq : Nat) (x59_6 : Bool), v59 = .bool x59_6 ∧ Aside0 (impl_IsFamily.j1 kq l0 l0 (l0.length : Int) x13_1 x59_6 ((rd_T37 l0 x13_1).f0) ((rd_T37 l0 x13_1).f1) ((rd_T37 l0 x13_1).f2) = some r) ∧ Aside0 (kq ≤ k1) ∧ Aside0 (wc.heap[gb175]? = some (.cells #[.int .i64 ((rd_T37 l0 x13_1).f0), .int .i64 ((rd_T37 l0 x13_1).f1), .int .i64 ((rd_T37 l0 x13_1).f2)] 37 (0, 0))) ∧ Aside0 (Below w.heap.size w wc))
              case first =>
                have H := HC7.out
                clear HC7
                replace H := Option.bind_eq_some_iff.mp H
                obtain ⟨t176, A100, H⟩ := H
                replace H : (if t176 = true then ((impl_between.f ((rd_T37 l0 x13_1).f1) (-1) (wrap64 (x13_1 - 1))).bind fun t177 => (if t177 = true then ((impl_between.f ((rd_T37 l0 x13_1).f2) (-1) (wrap64 (x13_1 - 1))).bind fun t178 => (if t178 = true then (if ((rd_T37 l0 x13_1).f2) ≥ 0 then (if ((rd_T37 l0 x13_1).f2) ≤ ((rd_T37 l0 x13_1).f1) then (impl_IsFamily.j1 k1 l0 l0 (l0.length : Int) x13_1 true ((rd_T37 l0 x13_1).f0) ((rd_T37 l0 x13_1).f1) ((rd_T37 l0 x13_1).f2)) else (if ((rd_T37 l0 x13_1).f1) < 0 then (impl_IsFamily.j1 k1 l0 l0 (l0.length : Int) x13_1 (decide (((rd_T37 l0 x13_1).f2) ≥ 0)) ((rd_T37 l0 x13_1).f0) ((rd_T37 l0 x13_1).f1) ((rd_T37 l0 x13_1).f2)) else (impl_IsFamily.j1 k1 l0 l0 (l0.length : Int) x13_1 false ((rd_T37 l0 x13_1).f0) ((rd_T37 l0 x13_1).f1) ((rd_T37 l0 x13_1).f2)))) else (if ((rd_T37 l0 x13_1).f1) < 0 then (impl_IsFamily.j1 k1 l0 l0 (l0.length : Int) x13_1 (decide (((rd_T37 l0 x13_1).f2) ≥ 0)) ((rd_T37 l0 x13_1).f0) ((rd_T37 l0 x13_1).f1) ((rd_T37 l0 x13_1).f2)) else (impl_IsFamily.j1 k1 l0 l0 (l0.length : Int) x13_1 false ((rd_T37 l0 x13_1).f0) ((rd_T37 l0 x13_1).f1) ((rd_T37 l0 x13_1).f2)))) else (impl_IsFamily.j1 k1 l0 l0 (l0.length : Int) x13_1 true ((rd_T37 l0 x13_1).f0) ((rd_T37 l0 x13_1).f1) ((rd_T37 l0 x13_1).f2)))) else (impl_IsFamily.j1 k1 l0 l0 (l0.length : Int) x13_1 true ((rd_T37 l0 x13_1).f0) ((rd_T37 l0 x13_1).f1) ((rd_T37 l0 x13_1).f2)))) else (impl_IsFamily.j1 k1 l0 l0 (l0.length : Int) x13_1 true ((rd_T37 l0 x13_1).f0) ((rd_T37 l0 x13_1).f1) ((rd_T37 l0 x13_1).f2))) = some r := H
                have A10 := Aside0.mk A100
                clear A100
                by_cases c11 : t176 = true
                · subst c11
                  have H1 : ((impl_between.f ((rd_T37 l0 x13_1).f1) (-1) (wrap64 (x13_1 - 1))).bind fun t177 => (if t177 = true then ((impl_between.f ((rd_T37 l0 x13_1).f2) (-1) (wrap64 (x13_1 - 1))).bind fun t178 => (if t178 = true then (if ((rd_T37 l0 x13_1).f2) ≥ 0 then (if ((rd_T37 l0 x13_1).f2) ≤ ((rd_T37 l0 x13_1).f1) then (impl_IsFamily.j1 k1 l0 l0 (l0.length : Int) x13_1 true ((rd_T37 l0 x13_1).f0) ((rd_T37 l0 x13_1).f1) ((rd_T37 l0 x13_1).f2)) else (if ((rd_T37 l0 x13_1).f1) < 0 then (impl_IsFamily.j1 k1 l0 l0 (l0.length : Int) x13_1 (decide (((rd_T37 l0 x13_1).f2) ≥ 0)) ((rd_T37 l0 x13_1).f0) ((rd_T37 l0 x13_1).f1) ((rd_T37 l0 x13_1).f2)) else (impl_IsFamily.j1 k1 l0 l0 (l0.length : Int) x13_1 false ((rd_T37 l0 x13_1).f0) ((rd_T37 l0 x13_1).f1) ((rd_T37 l0 x13_1).f2)))) else (if ((rd_T37 l0 x13_1).f1) < 0 then (impl_IsFamily.j1 k1 l0 l0 (l0.length : Int) x13_1 (decide (((rd_T37 l0 x13_1).f2) ≥ 0)) ((rd_T37 l0 x13_1).f0) ((rd_T37 l0 x13_1).f1) ((rd_T37 l0 x13_1).f2)) else (impl_IsFamily.j1 k1 l0 l0 (l0.length : Int) x13_1 false ((rd_T37 l0 x13_1).f0) ((rd_T37 l0 x13_1).f1) ((rd_T37 l0 x13_1).f2)))) else (impl_IsFamily.j1 k1 l0 l0 (l0.length : Int) x13_1 true ((rd_T37 l0 x13_1).f0) ((rd_T37 l0 x13_1).f1) ((rd_T37 l0 x13_1).f2)))) else (impl_IsFamily.j1 k1 l0 l0 (l0.length : Int) x13_1 true ((rd_T37 l0 x13_1).f0) ((rd_T37 l0 x13_1).f1) ((rd_T37 l0 x13_1).f2)))) = some r := by rw [if_pos rfl] at H; exact H
                  clear H
                  have H := H1
                  clear H1
                  replace H := Option.bind_eq_some_iff.mp H
                  obtain ⟨t177, A120, H⟩ := H
                  replace H : (if t177 = true then ((impl_between.f ((rd_T37 l0 x13_1).f2) (-1) (wrap64 (x13_1 - 1))).bind fun t178 => (if t178 = true then (if ((rd_T37 l0 x13_1).f2) ≥ 0 then (if ((rd_T37 l0 x13_1).f2) ≤ ((rd_T37 l0 x13_1).f1) then (impl_IsFamily.j1 k1 l0 l0 (l0.length : Int) x13_1 true ((rd_T37 l0 x13_1).f0) ((rd_T37 l0 x13_1).f1) ((rd_T37 l0 x13_1).f2)) else (if ((rd_T37 l0 x13_1).f1) < 0 then (impl_IsFamily.j1 k1 l0 l0 (l0.length : Int) x13_1 (decide (((rd_T37 l0 x13_1).f2) ≥ 0)) ((rd_T37 l0 x13_1).f0) ((rd_T37 l0 x13_1).f1) ((rd_T37 l0 x13_1).f2)) else (impl_IsFamily.j1 k1 l0 l0 (l0.length : Int) x13_1 false ((rd_T37 l0 x13_1).f0) ((rd_T37 l0 x13_1).f1) ((rd_T37 l0 x13_1).f2)))) else (if ((rd_T37 l0 x13_1).f1) < 0 then (impl_IsFamily.j1 k1 l0 l0 (l0.length : Int) x13_1 (decide (((rd_T37 l0 x13_1).f2) ≥ 0)) ((rd_T37 l0 x13_1).f0) ((rd_T37 l0 x13_1).f1) ((rd_T37 l0 x13_1).f2)) else (impl_IsFamily.j1 k1 l0 l0 (l0.length : Int) x13_1 false ((rd_T37 l0 x13_1).f0) ((rd_T37 l0 x13_1).f1) ((rd_T37 l0 x13_1).f2)))) else (impl_IsFamily.j1 k1 l0 l0 (l0.length : Int) x13_1 true ((rd_T37 l0 x13_1).f0) ((rd_T37 l0 x13_1).f1) ((rd_T37 l0 x13_1).f2)))) else (impl_IsFamily.j1 k1 l0 l0 (l0.length : Int) x13_1 true ((rd_T37 l0 x13_1).f0) ((rd_T37 l0 x13_1).f1) ((rd_T37 l0 x13_1).f2))) = some r := H
                  have A12 := Aside0.mk A120
                  clear A120
                  by_cases c13 : t177 = true
                  · subst c13
                    have H1 : ((impl_between.f ((rd_T37 l0 x13_1).f2) (-1) (wrap64 (x13_1 - 1))).bind fun t178 => (if t178 = true then (if ((rd_T37 l0 x13_1).f2) ≥ 0 then (if ((rd_T37 l0 x13_1).f2) ≤ ((rd_T37 l0 x13_1).f1) then (impl_IsFamily.j1 k1 l0 l0 (l0.length : Int) x13_1 true ((rd_T37 l0 x13_1).f0) ((rd_T37 l0 x13_1).f1) ((rd_T37 l0 x13_1).f2)) else (if ((rd_T37 l0 x13_1).f1) < 0 then (impl_IsFamily.j1 k1 l0 l0 (l0.length : Int) x13_1 (decide (((rd_T37 l0 x13_1).f2) ≥ 0)) ((rd_T37 l0 x13_1).f0) ((rd_T37 l0 x13_1).f1) ((rd_T37 l0 x13_1).f2)) else (impl_IsFamily.j1 k1 l0 l0 (l0.length : Int) x13_1 false ((rd_T37 l0 x13_1).f0) ((rd_T37 l0 x13_1).f1) ((rd_T37 l0 x13_1).f2)))) else (if ((rd_T37 l0 x13_1).f1) < 0 then (impl_IsFamily.j1 k1 l0 l0 (l0.length : Int) x13_1 (decide (((rd_T37 l0 x13_1).f2) ≥ 0)) ((rd_T37 l0 x13_1).f0) ((rd_T37 l0 x13_1).f1) ((rd_T37 l0 x13_1).f2)) else (impl_IsFamily.j1 k1 l0 l0 (l0.length : Int) x13_1 false ((rd_T37 l0 x13_1).f0) ((rd_T37 l0 x13_1).f1) ((rd_T37 l0 x13_1).f2)))) else (impl_IsFamily.j1 k1 l0 l0 (l0.length : Int) x13_1 true ((rd_T37 l0 x13_1).f0) ((rd_T37 l0 x13_1).f1) ((rd_T37 l0 x13_1).f2)))) = some r := by rw [if_pos rfl] at H; exact H
                    clear H
                    have H := H1
                    clear H1
                    replace H := Option.bind_eq_some_iff.mp H
                    obtain ⟨t178, A140, H⟩ := H
                    replace H : (if t178 = true then (if ((rd_T37 l0 x13_1).f2) ≥ 0 then (if ((rd_T37 l0 x13_1).f2) ≤ ((rd_T37 l0 x13_1).f1) then (impl_IsFamily.j1 k1 l0 l0 (l0.length : Int) x13_1 true ((rd_T37 l0 x13_1).f0) ((rd_T37 l0 x13_1).f1) ((rd_T37 l0 x13_1).f2)) else (if ((rd_T37 l0 x13_1).f1) < 0 then (impl_IsFamily.j1 k1 l0 l0 (l0.length : Int) x13_1 (decide (((rd_T37 l0 x13_1).f2) ≥ 0)) ((rd_T37 l0 x13_1).f0) ((rd_T37 l0 x13_1).f1) ((rd_T37 l0 x13_1).f2)) else (impl_IsFamily.j1 k1 l0 l0 (l0.length : Int) x13_1 false ((rd_T37 l0 x13_1).f0) ((rd_T37 l0 x13_1).f1) ((rd_T37 l0 x13_1).f2)))) else (if ((rd_T37 l0 x13_1).f1) < 0 then (impl_IsFamily.j1 k1 l0 l0 (l0.length : Int) x13_1 (decide (((rd_T37 l0 x13_1).f2) ≥ 0)) ((rd_T37 l0 x13_1).f0) ((rd_T37 l0 x13_1).f1) ((rd_T37 l0 x13_1).f2)) else (impl_IsFamily.j1 k1 l0 l0 (l0.length : Int) x13_1 false ((rd_T37 l0 x13_1).f0) ((rd_T37 l0 x13_1).f1) ((rd_T37 l0 x13_1).f2)))) else (impl_IsFamily.j1 k1 l0 l0 (l0.length : Int) x13_1 true ((rd_T37 l0 x13_1).f0) ((rd_T37 l0 x13_1).f1) ((rd_T37 l0 x13_1).f2))) = some r := H
                    have A14 := Aside0.mk A140
                    clear A140
                    by_cases c15 : t178 = true
                    · subst c15
                      have H1 : (if ((rd_T37 l0 x13_1).f2) ≥ 0 then (if ((rd_T37 l0 x13_1).f2) ≤ ((rd_T37 l0 x13_1).f1) then (impl_IsFamily.j1 k1 l0 l0 (l0.length : Int) x13_1 true ((rd_T37 l0 x13_1).f0) ((rd_T37 l0 x13_1).f1) ((rd_T37 l0 x13_1).f2)) else (if ((rd_T37 l0 x13_1).f1) < 0 then (impl_IsFamily.j1 k1 l0 l0 (l0.length : Int) x13_1 (decide (((rd_T37 l0 x13_1).f2) ≥ 0)) ((rd_T37 l0 x13_1).f0) ((rd_T37 l0 x13_1).f1) ((rd_T37 l0 x13_1).f2)) else (impl_IsFamily.j1 k1 l0 l0 (l0.length : Int) x13_1 false ((rd_T37 l0 x13_1).f0) ((rd_T37 l0 x13_1).f1) ((rd_T37 l0 x13_1).f2)))) else (if ((rd_T37 l0 x13_1).f1) < 0 then (impl_IsFamily.j1 k1 l0 l0 (l0.length : Int) x13_1 (decide (((rd_T37 l0 x13_1).f2) ≥ 0)) ((rd_T37 l0 x13_1).f0) ((rd_T37 l0 x13_1).f1) ((rd_T37 l0 x13_1).f2)) else (impl_IsFamily.j1 k1 l0 l0 (l0.length : Int) x13_1 false ((rd_T37 l0 x13_1).f0) ((rd_T37 l0 x13_1).f1) ((rd_T37 l0 x13_1).f2)))) = some r := by rw [if_pos rfl] at H; exact H
                      clear H
                      have H := H1
                      clear H1
                      by_cases c16 : ((rd_T37 l0 x13_1).f2) ≥ 0
                      · rw [if_pos c16] at H
                        have c16b0 : decide (0 ≤ ((rd_T37 l0 x13_1).f2)) = true := decide_eq_true c16
                        clear c16
                        (first | rw [c16b0] | (simp only [i64_w, i32_w]; rw [c16b0]) | skip)
                        by_cases c17 : ((rd_T37 l0 x13_1).f2) ≤ ((rd_T37 l0 x13_1).f1)
                        · rw [if_pos c17] at H
                          have c17b0 : decide (((rd_T37 l0 x13_1).f2) ≤ ((rd_T37 l0 x13_1).f1)) = true := decide_eq_true c17
                          clear c17
                          have H' := Aside0.mk H
                          clear H
                          have hcz18_0 : w8.cell? ⟨gb175, 0, none⟩ = some (.int .i64 0) := (blk_cell BK175.out 0).trans rfl
                          have hcz18_1 : w8.cell? ⟨gb175, 1, none⟩ = some (.int .i64 0) := (blk_cell BK175.out 1).trans rfl
                          have hcz18_2 : w8.cell? ⟨gb175, 2, none⟩ = some (.int .i64 0) := (blk_cell BK175.out 2).trans rfl
                          have hfz18_0 := blk_frozen BK175.out 0
                          have hfz18_1 := blk_frozen BK175.out 1
                          have hfz18_2 := blk_frozen BK175.out 2
                          go_wp2_with (first | (go_at_call 28; (with_reducible refine (impl_between.calls ((rd_T37 l0 x13_1).f0) 0 3000 true _ A10.out).mono ?_); rintro e w' ⟨rfl, ⟨nd, rfl⟩⟩; (try first | exact ⟨rfl, _, World.drewN_drewN _ _ _⟩ | exact ⟨rfl, _, Eq.trans (World.drewN_drewN _ _ _) (congrArg (World.drewN _) (Nat.add_assoc _ _ _))⟩)) | (go_at_call 28; (with_reducible refine (impl_between.calls ((rd_T37 l0 x13_1).f1) (-1) (wrap64 (x13_1 - 1)) true _ A12.out).mono ?_); rintro e w' ⟨rfl, ⟨nd, rfl⟩⟩; (try first | exact ⟨rfl, _, World.drewN_drewN _ _ _⟩ | exact ⟨rfl, _, Eq.trans (World.drewN_drewN _ _ _) (congrArg (World.drewN _) (Nat.add_assoc _ _ _))⟩)) | (go_at_call 28; (with_reducible refine (impl_between.calls ((rd_T37 l0 x13_1).f2) (-1) (wrap64 (x13_1 - 1)) true _ A14.out).mono ?_); rintro e w' ⟨rfl, ⟨nd, rfl⟩⟩; (try first | exact ⟨rfl, _, World.drewN_drewN _ _ _⟩ | exact ⟨rfl, _, Eq.trans (World.drewN_drewN _ _ _) (congrArg (World.drewN _) (Nat.add_assoc _ _ _))⟩)))
                          repeat (go_quiet (first | (go_at_call 28; (with_reducible refine (impl_between.calls ((rd_T37 l0 x13_1).f0) 0 3000 true _ A10.out).mono ?_); rintro e w' ⟨rfl, ⟨nd, rfl⟩⟩; (try first | exact ⟨rfl, _, World.drewN_drewN _ _ _⟩ | exact ⟨rfl, _, Eq.trans (World.drewN_drewN _ _ _) (congrArg (World.drewN _) (Nat.add_assoc _ _ _))⟩)) | (go_at_call 28; (with_reducible refine (impl_between.calls ((rd_T37 l0 x13_1).f1) (-1) (wrap64 (x13_1 - 1)) true _ A12.out).mono ?_); rintro e w' ⟨rfl, ⟨nd, rfl⟩⟩; (try first | exact ⟨rfl, _, World.drewN_drewN _ _ _⟩ | exact ⟨rfl, _, Eq.trans (World.drewN_drewN _ _ _) (congrArg (World.drewN _) (Nat.add_assoc _ _ _))⟩)) | (go_at_call 28; (with_reducible refine (impl_between.calls ((rd_T37 l0 x13_1).f2) (-1) (wrap64 (x13_1 - 1)) true _ A14.out).mono ?_); rintro e w' ⟨rfl, ⟨nd, rfl⟩⟩; (try first | exact ⟨rfl, _, World.drewN_drewN _ _ _⟩ | exact ⟨rfl, _, Eq.trans (World.drewN_drewN _ _ _) (congrArg (World.drewN _) (Nat.add_assoc _ _ _))⟩))); try go_wp2_with (first | (go_at_call 28; (with_reducible refine (impl_between.calls ((rd_T37 l0 x13_1).f0) 0 3000 true _ A10.out).mono ?_); rintro e w' ⟨rfl, ⟨nd, rfl⟩⟩; (try first | exact ⟨rfl, _, World.drewN_drewN _ _ _⟩ | exact ⟨rfl, _, Eq.trans (World.drewN_drewN _ _ _) (congrArg (World.drewN _) (Nat.add_assoc _ _ _))⟩)) | (go_at_call 28; (with_reducible refine (impl_between.calls ((rd_T37 l0 x13_1).f1) (-1) (wrap64 (x13_1 - 1)) true _ A12.out).mono ?_); rintro e w' ⟨rfl, ⟨nd, rfl⟩⟩; (try first | exact ⟨rfl, _, World.drewN_drewN _ _ _⟩ | exact ⟨rfl, _, Eq.trans (World.drewN_drewN _ _ _) (congrArg (World.drewN _) (Nat.add_assoc _ _ _))⟩)) | (go_at_call 28; (with_reducible refine (impl_between.calls ((rd_T37 l0 x13_1).f2) (-1) (wrap64 (x13_1 - 1)) true _ A14.out).mono ?_); rintro e w' ⟨rfl, ⟨nd, rfl⟩⟩; (try first | exact ⟨rfl, _, World.drewN_drewN _ _ _⟩ | exact ⟨rfl, _, Eq.trans (World.drewN_drewN _ _ _) (congrArg (World.drewN _) (Nat.add_assoc _ _ _))⟩))))
                          go_meet
                          case rel => exact ⟨_, (true), (by first | rfl | (simp; done) | (simp [*]; done)), H', ⟨by have := HK1.out; first | omega | exact Nat.le_refl _⟩, ⟨by (with_reducible repeat (first | refine blk_drewN ?_ _ | refine blk_drew ?_ | refine blk_alloc ?_ _)); refine blk_put (cs := #[.int .i64 ((rd_T37 l0 x13_1).f0), .int .i64 ((rd_T37 l0 x13_1).f1), .int .i64 0]) ?_ 2 _ rfl; (with_reducible repeat (first | refine blk_drewN ?_ _ | refine blk_drew ?_ | refine blk_alloc ?_ _)); refine blk_put (cs := #[.int .i64 ((rd_T37 l0 x13_1).f0), .int .i64 0, .int .i64 0]) ?_ 1 _ rfl; (with_reducible repeat (first | refine blk_drewN ?_ _ | refine blk_drew ?_ | refine blk_alloc ?_ _)); refine blk_put (cs := #[.int .i64 0, .int .i64 0, .int .i64 0]) ?_ 0 _ rfl; (with_reducible repeat (first | refine blk_drewN ?_ _ | refine blk_drew ?_ | refine blk_alloc ?_ _)); exact BK175.out⟩, ⟨by repeat (first | (with_reducible first | exact HB.out | apply below_alloc | apply pw_below_drewN | apply below_drew1 | refine below_set ?_ GE175.out) | exact HB.out)⟩⟩
                        · rw [if_neg c17] at H
                          have c17b0 : decide (((rd_T37 l0 x13_1).f2) ≤ ((rd_T37 l0 x13_1).f1)) = false := decide_eq_false c17
                          clear c17
                          by_cases c19 : ((rd_T37 l0 x13_1).f1) < 0
                          · rw [if_pos c19] at H
                            have c19b0 : decide (((rd_T37 l0 x13_1).f1) < 0) = true := decide_eq_true c19
                            clear c19
                            have H' := Aside0.mk H
                            clear H
                            have hcz20_0 : w8.cell? ⟨gb175, 0, none⟩ = some (.int .i64 0) := (blk_cell BK175.out 0).trans rfl
                            have hcz20_1 : w8.cell? ⟨gb175, 1, none⟩ = some (.int .i64 0) := (blk_cell BK175.out 1).trans rfl
                            have hcz20_2 : w8.cell? ⟨gb175, 2, none⟩ = some (.int .i64 0) := (blk_cell BK175.out 2).trans rfl
                            have hfz20_0 := blk_frozen BK175.out 0
                            have hfz20_1 := blk_frozen BK175.out 1
                            have hfz20_2 := blk_frozen BK175.out 2
                            go_wp2_with (first | (go_at_call 28; (with_reducible refine (impl_between.calls ((rd_T37 l0 x13_1).f0) 0 3000 true _ A10.out).mono ?_); rintro e w' ⟨rfl, ⟨nd, rfl⟩⟩; (try first | exact ⟨rfl, _, World.drewN_drewN _ _ _⟩ | exact ⟨rfl, _, Eq.trans (World.drewN_drewN _ _ _) (congrArg (World.drewN _) (Nat.add_assoc _ _ _))⟩)) | (go_at_call 28; (with_reducible refine (impl_between.calls ((rd_T37 l0 x13_1).f1) (-1) (wrap64 (x13_1 - 1)) true _ A12.out).mono ?_); rintro e w' ⟨rfl, ⟨nd, rfl⟩⟩; (try first | exact ⟨rfl, _, World.drewN_drewN _ _ _⟩ | exact ⟨rfl, _, Eq.trans (World.drewN_drewN _ _ _) (congrArg (World.drewN _) (Nat.add_assoc _ _ _))⟩)) | (go_at_call 28; (with_reducible refine (impl_between.calls ((rd_T37 l0 x13_1).f2) (-1) (wrap64 (x13_1 - 1)) true _ A14.out).mono ?_); rintro e w' ⟨rfl, ⟨nd, rfl⟩⟩; (try first | exact ⟨rfl, _, World.drewN_drewN _ _ _⟩ | exact ⟨rfl, _, Eq.trans (World.drewN_drewN _ _ _) (congrArg (World.drewN _) (Nat.add_assoc _ _ _))⟩)))
                            repeat (go_quiet (first | (go_at_call 28; (with_reducible refine (impl_between.calls ((rd_T37 l0 x13_1).f0) 0 3000 true _ A10.out).mono ?_); rintro e w' ⟨rfl, ⟨nd, rfl⟩⟩; (try first | exact ⟨rfl, _, World.drewN_drewN _ _ _⟩ | exact ⟨rfl, _, Eq.trans (World.drewN_drewN _ _ _) (congrArg (World.drewN _) (Nat.add_assoc _ _ _))⟩)) | (go_at_call 28; (with_reducible refine (impl_between.calls ((rd_T37 l0 x13_1).f1) (-1) (wrap64 (x13_1 - 1)) true _ A12.out).mono ?_); rintro e w' ⟨rfl, ⟨nd, rfl⟩⟩; (try first | exact ⟨rfl, _, World.drewN_drewN _ _ _⟩ | exact ⟨rfl, _, Eq.trans (World.drewN_drewN _ _ _) (congrArg (World.drewN _) (Nat.add_assoc _ _ _))⟩)) | (go_at_call 28; (with_reducible refine (impl_between.calls ((rd_T37 l0 x13_1).f2) (-1) (wrap64 (x13_1 - 1)) true _ A14.out).mono ?_); rintro e w' ⟨rfl, ⟨nd, rfl⟩⟩; (try first | exact ⟨rfl, _, World.drewN_drewN _ _ _⟩ | exact ⟨rfl, _, Eq.trans (World.drewN_drewN _ _ _) (congrArg (World.drewN _) (Nat.add_assoc _ _ _))⟩))); try go_wp2_with (first | (go_at_call 28; (with_reducible refine (impl_between.calls ((rd_T37 l0 x13_1).f0) 0 3000 true _ A10.out).mono ?_); rintro e w' ⟨rfl, ⟨nd, rfl⟩⟩; (try first | exact ⟨rfl, _, World.drewN_drewN _ _ _⟩ | exact ⟨rfl, _, Eq.trans (World.drewN_drewN _ _ _) (congrArg (World.drewN _) (Nat.add_assoc _ _ _))⟩)) | (go_at_call 28; (with_reducible refine (impl_between.calls ((rd_T37 l0 x13_1).f1) (-1) (wrap64 (x13_1 - 1)) true _ A12.out).mono ?_); rintro e w' ⟨rfl, ⟨nd, rfl⟩⟩; (try first | exact ⟨rfl, _, World.drewN_drewN _ _ _⟩ | exact ⟨rfl, _, Eq.trans (World.drewN_drewN _ _ _) (congrArg (World.drewN _) (Nat.add_assoc _ _ _))⟩)) | (go_at_call 28; (with_reducible refine (impl_between.calls ((rd_T37 l0 x13_1).f2) (-1) (wrap64 (x13_1 - 1)) true _ A14.out).mono ?_); rintro e w' ⟨rfl, ⟨nd, rfl⟩⟩; (try first | exact ⟨rfl, _, World.drewN_drewN _ _ _⟩ | exact ⟨rfl, _, Eq.trans (World.drewN_drewN _ _ _) (congrArg (World.drewN _) (Nat.add_assoc _ _ _))⟩))))
                            go_meet
                            case rel => exact ⟨_, (decide (((rd_T37 l0 x13_1).f2) ≥ 0)), (by first | rfl | (simp; done) | (simp [*]; done)), H', ⟨by have := HK1.out; first | omega | exact Nat.le_refl _⟩, ⟨by (with_reducible repeat (first | refine blk_drewN ?_ _ | refine blk_drew ?_ | refine blk_alloc ?_ _)); refine blk_put (cs := #[.int .i64 ((rd_T37 l0 x13_1).f0), .int .i64 ((rd_T37 l0 x13_1).f1), .int .i64 0]) ?_ 2 _ rfl; (with_reducible repeat (first | refine blk_drewN ?_ _ | refine blk_drew ?_ | refine blk_alloc ?_ _)); refine blk_put (cs := #[.int .i64 ((rd_T37 l0 x13_1).f0), .int .i64 0, .int .i64 0]) ?_ 1 _ rfl; (with_reducible repeat (first | refine blk_drewN ?_ _ | refine blk_drew ?_ | refine blk_alloc ?_ _)); refine blk_put (cs := #[.int .i64 0, .int .i64 0, .int .i64 0]) ?_ 0 _ rfl; (with_reducible repeat (first | refine blk_drewN ?_ _ | refine blk_drew ?_ | refine blk_alloc ?_ _)); exact BK175.out⟩, ⟨by repeat (first | (with_reducible first | exact HB.out | apply below_alloc | apply pw_below_drewN | apply below_drew1 | refine below_set ?_ GE175.out) | exact HB.out)⟩⟩
                          · rw [if_neg c19] at H
                            have c19b0 : decide (((rd_T37 l0 x13_1).f1) < 0) = false := decide_eq_false c19
                            clear c19
                            have H' := Aside0.mk H
                            clear H
                            have hcz21_0 : w8.cell? ⟨gb175, 0, none⟩ = some (.int .i64 0) := (blk_cell BK175.out 0).trans rfl
                            have hcz21_1 : w8.cell? ⟨gb175, 1, none⟩ = some (.int .i64 0) := (blk_cell BK175.out 1).trans rfl
                            have hcz21_2 : w8.cell? ⟨gb175, 2, none⟩ = some (.int .i64 0) := (blk_cell BK175.out 2).trans rfl
                            have hfz21_0 := blk_frozen BK175.out 0
                            have hfz21_1 := blk_frozen BK175.out 1
                            have hfz21_2 := blk_frozen BK175.out 2
                            go_wp2_with (first | (go_at_call 28; (with_reducible refine (impl_between.calls ((rd_T37 l0 x13_1).f0) 0 3000 true _ A10.out).mono ?_); rintro e w' ⟨rfl, ⟨nd, rfl⟩⟩; (try first | exact ⟨rfl, _, World.drewN_drewN _ _ _⟩ | exact ⟨rfl, _, Eq.trans (World.drewN_drewN _ _ _) (congrArg (World.drewN _) (Nat.add_assoc _ _ _))⟩)) | (go_at_call 28; (with_reducible refine (impl_between.calls ((rd_T37 l0 x13_1).f1) (-1) (wrap64 (x13_1 - 1)) true _ A12.out).mono ?_); rintro e w' ⟨rfl, ⟨nd, rfl⟩⟩; (try first | exact ⟨rfl, _, World.drewN_drewN _ _ _⟩ | exact ⟨rfl, _, Eq.trans (World.drewN_drewN _ _ _) (congrArg (World.drewN _) (Nat.add_assoc _ _ _))⟩)) | (go_at_call 28; (with_reducible refine (impl_between.calls ((rd_T37 l0 x13_1).f2) (-1) (wrap64 (x13_1 - 1)) true _ A14.out).mono ?_); rintro e w' ⟨rfl, ⟨nd, rfl⟩⟩; (try first | exact ⟨rfl, _, World.drewN_drewN _ _ _⟩ | exact ⟨rfl, _, Eq.trans (World.drewN_drewN _ _ _) (congrArg (World.drewN _) (Nat.add_assoc _ _ _))⟩)))
                            repeat (go_quiet (first | (go_at_call 28; (with_reducible refine (impl_between.calls ((rd_T37 l0 x13_1).f0) 0 3000 true _ A10.out).mono ?_); rintro e w' ⟨rfl, ⟨nd, rfl⟩⟩; (try first | exact ⟨rfl, _, World.drewN_drewN _ _ _⟩ | exact ⟨rfl, _, Eq.trans (World.drewN_drewN _ _ _) (congrArg (World.drewN _) (Nat.add_assoc _ _ _))⟩)) | (go_at_call 28; (with_reducible refine (impl_between.calls ((rd_T37 l0 x13_1).f1) (-1) (wrap64 (x13_1 - 1)) true _ A12.out).mono ?_); rintro e w' ⟨rfl, ⟨nd, rfl⟩⟩; (try first | exact ⟨rfl, _, World.drewN_drewN _ _ _⟩ | exact ⟨rfl, _, Eq.trans (World.drewN_drewN _ _ _) (congrArg (World.drewN _) (Nat.add_assoc _ _ _))⟩)) | (go_at_call 28; (with_reducible refine (impl_between.calls ((rd_T37 l0 x13_1).f2) (-1) (wrap64 (x13_1 - 1)) true _ A14.out).mono ?_); rintro e w' ⟨rfl, ⟨nd, rfl⟩⟩; (try first | exact ⟨rfl, _, World.drewN_drewN _ _ _⟩ | exact ⟨rfl, _, Eq.trans (World.drewN_drewN _ _ _) (congrArg (World.drewN _) (Nat.add_assoc _ _ _))⟩))); try go_wp2_with (first | (go_at_call 28; (with_reducible refine (impl_between.calls ((rd_T37 l0 x13_1).f0) 0 3000 true _ A10.out).mono ?_); rintro e w' ⟨rfl, ⟨nd, rfl⟩⟩; (try first | exact ⟨rfl, _, World.drewN_drewN _ _ _⟩ | exact ⟨rfl, _, Eq.trans (World.drewN_drewN _ _ _) (congrArg (World.drewN _) (Nat.add_assoc _ _ _))⟩)) | (go_at_call 28; (with_reducible refine (impl_between.calls ((rd_T37 l0 x13_1).f1) (-1) (wrap64 (x13_1 - 1)) true _ A12.out).mono ?_); rintro e w' ⟨rfl, ⟨nd, rfl⟩⟩; (try first | exact ⟨rfl, _, World.drewN_drewN _ _ _⟩ | exact ⟨rfl, _, Eq.trans (World.drewN_drewN _ _ _) (congrArg (World.drewN _) (Nat.add_assoc _ _ _))⟩)) | (go_at_call 28; (with_reducible refine (impl_between.calls ((rd_T37 l0 x13_1).f2) (-1) (wrap64 (x13_1 - 1)) true _ A14.out).mono ?_); rintro e w' ⟨rfl, ⟨nd, rfl⟩⟩; (try first | exact ⟨rfl, _, World.drewN_drewN _ _ _⟩ | exact ⟨rfl, _, Eq.trans (World.drewN_drewN _ _ _) (congrArg (World.drewN _) (Nat.add_assoc _ _ _))⟩))))
                            go_meet
                            case rel => exact ⟨_, (false), (by first | rfl | (simp; done) | (simp [*]; done)), H', ⟨by have := HK1.out; first | omega | exact Nat.le_refl _⟩, ⟨by (with_reducible repeat (first | refine blk_drewN ?_ _ | refine blk_drew ?_ | refine blk_alloc ?_ _)); refine blk_put (cs := #[.int .i64 ((rd_T37 l0 x13_1).f0), .int .i64 ((rd_T37 l0 x13_1).f1), .int .i64 0]) ?_ 2 _ rfl; (with_reducible repeat (first | refine blk_drewN ?_ _ | refine blk_drew ?_ | refine blk_alloc ?_ _)); refine blk_put (cs := #[.int .i64 ((rd_T37 l0 x13_1).f0), .int .i64 0, .int .i64 0]) ?_ 1 _ rfl; (with_reducible repeat (first | refine blk_drewN ?_ _ | refine blk_drew ?_ | refine blk_alloc ?_ _)); refine blk_put (cs := #[.int .i64 0, .int .i64 0, .int .i64 0]) ?_ 0 _ rfl; (with_reducible repeat (first | refine blk_drewN ?_ _ | refine blk_drew ?_ | refine blk_alloc ?_ _)); exact BK175.out⟩, ⟨by repeat (first | (with_reducible first | exact HB.out | apply below_alloc | apply pw_below_drewN | apply below_drew1 | refine below_set ?_ GE175.out) | exact HB.out)⟩⟩
                      · rw [if_neg c16] at H
                        have c16b0 : decide (0 ≤ ((rd_T37 l0 x13_1).f2)) = false := decide_eq_false c16
                        clear c16
                        (first | rw [c16b0] | (simp only [i64_w, i32_w]; rw [c16b0]) | skip)
                        by_cases c22 : ((rd_T37 l0 x13_1).f1) < 0
                        · rw [if_pos c22] at H
                          have c22b0 : decide (((rd_T37 l0 x13_1).f1) < 0) = true := decide_eq_true c22
                          clear c22
                          have H' := Aside0.mk H
                          clear H
                          have hcz23_0 : w8.cell? ⟨gb175, 0, none⟩ = some (.int .i64 0) := (blk_cell BK175.out 0).trans rfl
                          have hcz23_1 : w8.cell? ⟨gb175, 1, none⟩ = some (.int .i64 0) := (blk_cell BK175.out 1).trans rfl
                          have hcz23_2 : w8.cell? ⟨gb175, 2, none⟩ = some (.int .i64 0) := (blk_cell BK175.out 2).trans rfl
                          have hfz23_0 := blk_frozen BK175.out 0
                          have hfz23_1 := blk_frozen BK175.out 1
                          have hfz23_2 := blk_frozen BK175.out 2
                          go_wp2_with (first | (go_at_call 28; (with_reducible refine (impl_between.calls ((rd_T37 l0 x13_1).f0) 0 3000 true _ A10.out).mono ?_); rintro e w' ⟨rfl, ⟨nd, rfl⟩⟩; (try first | exact ⟨rfl, _, World.drewN_drewN _ _ _⟩ | exact ⟨rfl, _, Eq.trans (World.drewN_drewN _ _ _) (congrArg (World.drewN _) (Nat.add_assoc _ _ _))⟩)) | (go_at_call 28; (with_reducible refine (impl_between.calls ((rd_T37 l0 x13_1).f1) (-1) (wrap64 (x13_1 - 1)) true _ A12.out).mono ?_); rintro e w' ⟨rfl, ⟨nd, rfl⟩⟩; (try first | exact ⟨rfl, _, World.drewN_drewN _ _ _⟩ | exact ⟨rfl, _, Eq.trans (World.drewN_drewN _ _ _) (congrArg (World.drewN _) (Nat.add_assoc _ _ _))⟩)) | (go_at_call 28; (with_reducible refine (impl_between.calls ((rd_T37 l0 x13_1).f2) (-1) (wrap64 (x13_1 - 1)) true _ A14.out).mono ?_); rintro e w' ⟨rfl, ⟨nd, rfl⟩⟩; (try first | exact ⟨rfl, _, World.drewN_drewN _ _ _⟩ | exact ⟨rfl, _, Eq.trans (World.drewN_drewN _ _ _) (congrArg (World.drewN _) (Nat.add_assoc _ _ _))⟩)))
                          repeat (go_quiet (first | (go_at_call 28; (with_reducible refine (impl_between.calls ((rd_T37 l0 x13_1).f0) 0 3000 true _ A10.out).mono ?_); rintro e w' ⟨rfl, ⟨nd, rfl⟩⟩; (try first | exact ⟨rfl, _, World.drewN_drewN _ _ _⟩ | exact ⟨rfl, _, Eq.trans (World.drewN_drewN _ _ _) (congrArg (World.drewN _) (Nat.add_assoc _ _ _))⟩)) | (go_at_call 28; (with_reducible refine (impl_between.calls ((rd_T37 l0 x13_1).f1) (-1) (wrap64 (x13_1 - 1)) true _ A12.out).mono ?_); rintro e w' ⟨rfl, ⟨nd, rfl⟩⟩; (try first | exact ⟨rfl, _, World.drewN_drewN _ _ _⟩ | exact ⟨rfl, _, Eq.trans (World.drewN_drewN _ _ _) (congrArg (World.drewN _) (Nat.add_assoc _ _ _))⟩)) | (go_at_call 28; (with_reducible refine (impl_between.calls ((rd_T37 l0 x13_1).f2) (-1) (wrap64 (x13_1 - 1)) true _ A14.out).mono ?_); rintro e w' ⟨rfl, ⟨nd, rfl⟩⟩; (try first | exact ⟨rfl, _, World.drewN_drewN _ _ _⟩ | exact ⟨rfl, _, Eq.trans (World.drewN_drewN _ _ _) (congrArg (World.drewN _) (Nat.add_assoc _ _ _))⟩))); try go_wp2_with (first | (go_at_call 28; (with_reducible refine (impl_between.calls ((rd_T37 l0 x13_1).f0) 0 3000 true _ A10.out).mono ?_); rintro e w' ⟨rfl, ⟨nd, rfl⟩⟩; (try first | exact ⟨rfl, _, World.drewN_drewN _ _ _⟩ | exact ⟨rfl, _, Eq.trans (World.drewN_drewN _ _ _) (congrArg (World.drewN _) (Nat.add_assoc _ _ _))⟩)) | (go_at_call 28; (with_reducible refine (impl_between.calls ((rd_T37 l0 x13_1).f1) (-1) (wrap64 (x13_1 - 1)) true _ A12.out).mono ?_); rintro e w' ⟨rfl, ⟨nd, rfl⟩⟩; (try first | exact ⟨rfl, _, World.drewN_drewN _ _ _⟩ | exact ⟨rfl, _, Eq.trans (World.drewN_drewN _ _ _) (congrArg (World.drewN _) (Nat.add_assoc _ _ _))⟩)) | (go_at_call 28; (with_reducible refine (impl_between.calls ((rd_T37 l0 x13_1).f2) (-1) (wrap64 (x13_1 - 1)) true _ A14.out).mono ?_); rintro e w' ⟨rfl, ⟨nd, rfl⟩⟩; (try first | exact ⟨rfl, _, World.drewN_drewN _ _ _⟩ | exact ⟨rfl, _, Eq.trans (World.drewN_drewN _ _ _) (congrArg (World.drewN _) (Nat.add_assoc _ _ _))⟩))))
                          go_meet
                          case rel => exact ⟨_, (decide (((rd_T37 l0 x13_1).f2) ≥ 0)), (by first | rfl | (simp; done) | (simp [*]; done)), H', ⟨by have := HK1.out; first | omega | exact Nat.le_refl _⟩, ⟨by (with_reducible repeat (first | refine blk_drewN ?_ _ | refine blk_drew ?_ | refine blk_alloc ?_ _)); refine blk_put (cs := #[.int .i64 ((rd_T37 l0 x13_1).f0), .int .i64 ((rd_T37 l0 x13_1).f1), .int .i64 0]) ?_ 2 _ rfl; (with_reducible repeat (first | refine blk_drewN ?_ _ | refine blk_drew ?_ | refine blk_alloc ?_ _)); refine blk_put (cs := #[.int .i64 ((rd_T37 l0 x13_1).f0), .int .i64 0, .int .i64 0]) ?_ 1 _ rfl; (with_reducible repeat (first | refine blk_drewN ?_ _ | refine blk_drew ?_ | refine blk_alloc ?_ _)); refine blk_put (cs := #[.int .i64 0, .int .i64 0, .int .i64 0]) ?_ 0 _ rfl; (with_reducible repeat (first | refine blk_drewN ?_ _ | refine blk_drew ?_ | refine blk_alloc ?_ _)); exact BK175.out⟩, ⟨by repeat (first | (with_reducible first | exact HB.out | apply below_alloc | apply pw_below_drewN | apply below_drew1 | refine below_set ?_ GE175.out) | exact HB.out)⟩⟩
                        · rw [if_neg c22] at H
                          have c22b0 : decide (((rd_T37 l0 x13_1).f1) < 0) = false := decide_eq_false c22
                          clear c22
                          have H' := Aside0.mk H
                          clear H
                          have hcz24_0 : w8.cell? ⟨gb175, 0, none⟩ = some (.int .i64 0) := (blk_cell BK175.out 0).trans rfl
                          have hcz24_1 : w8.cell? ⟨gb175, 1, none⟩ = some (.int .i64 0) := (blk_cell BK175.out 1).trans rfl
                          have hcz24_2 : w8.cell? ⟨gb175, 2, none⟩ = some (.int .i64 0) := (blk_cell BK175.out 2).trans rfl
                          have hfz24_0 := blk_frozen BK175.out 0
                          have hfz24_1 := blk_frozen BK175.out 1
                          have hfz24_2 := blk_frozen BK175.out 2
                          go_wp2_with (first | (go_at_call 28; (with_reducible refine (impl_between.calls ((rd_T37 l0 x13_1).f0) 0 3000 true _ A10.out).mono ?_); rintro e w' ⟨rfl, ⟨nd, rfl⟩⟩; (try first | exact ⟨rfl, _, World.drewN_drewN _ _ _⟩ | exact ⟨rfl, _, Eq.trans (World.drewN_drewN _ _ _) (congrArg (World.drewN _) (Nat.add_assoc _ _ _))⟩)) | (go_at_call 28; (with_reducible refine (impl_between.calls ((rd_T37 l0 x13_1).f1) (-1) (wrap64 (x13_1 - 1)) true _ A12.out).mono ?_); rintro e w' ⟨rfl, ⟨nd, rfl⟩⟩; (try first | exact ⟨rfl, _, World.drewN_drewN _ _ _⟩ | exact ⟨rfl, _, Eq.trans (World.drewN_drewN _ _ _) (congrArg (World.drewN _) (Nat.add_assoc _ _ _))⟩)) | (go_at_call 28; (with_reducible refine (impl_between.calls ((rd_T37 l0 x13_1).f2) (-1) (wrap64 (x13_1 - 1)) true _ A14.out).mono ?_); rintro e w' ⟨rfl, ⟨nd, rfl⟩⟩; (try first | exact ⟨rfl, _, World.drewN_drewN _ _ _⟩ | exact ⟨rfl, _, Eq.trans (World.drewN_drewN _ _ _) (congrArg (World.drewN _) (Nat.add_assoc _ _ _))⟩)))
                          repeat (go_quiet (first | (go_at_call 28; (with_reducible refine (impl_between.calls ((rd_T37 l0 x13_1).f0) 0 3000 true _ A10.out).mono ?_); rintro e w' ⟨rfl, ⟨nd, rfl⟩⟩; (try first | exact ⟨rfl, _, World.drewN_drewN _ _ _⟩ | exact ⟨rfl, _, Eq.trans (World.drewN_drewN _ _ _) (congrArg (World.drewN _) (Nat.add_assoc _ _ _))⟩)) | (go_at_call 28; (with_reducible refine (impl_between.calls ((rd_T37 l0 x13_1).f1) (-1) (wrap64 (x13_1 - 1)) true _ A12.out).mono ?_); rintro e w' ⟨rfl, ⟨nd, rfl⟩⟩; (try first | exact ⟨rfl, _, World.drewN_drewN _ _ _⟩ | exact ⟨rfl, _, Eq.trans (World.drewN_drewN _ _ _) (congrArg (World.drewN _) (Nat.add_assoc _ _ _))⟩)) | (go_at_call 28; (with_reducible refine (impl_between.calls ((rd_T37 l0 x13_1).f2) (-1) (wrap64 (x13_1 - 1)) true _ A14.out).mono ?_); rintro e w' ⟨rfl, ⟨nd, rfl⟩⟩; (try first | exact ⟨rfl, _, World.drewN_drewN _ _ _⟩ | exact ⟨rfl, _, Eq.trans (World.drewN_drewN _ _ _) (congrArg (World.drewN _) (Nat.add_assoc _ _ _))⟩))); try go_wp2_with (first | (go_at_call 28; (with_reducible refine (impl_between.calls ((rd_T37 l0 x13_1).f0) 0 3000 true _ A10.out).mono ?_); rintro e w' ⟨rfl, ⟨nd, rfl⟩⟩; (try first | exact ⟨rfl, _, World.drewN_drewN _ _ _⟩ | exact ⟨rfl, _, Eq.trans (World.drewN_drewN _ _ _) (congrArg (World.drewN _) (Nat.add_assoc _ _ _))⟩)) | (go_at_call 28; (with_reducible refine (impl_between.calls ((rd_T37 l0 x13_1).f1) (-1) (wrap64 (x13_1 - 1)) true _ A12.out).mono ?_); rintro e w' ⟨rfl, ⟨nd, rfl⟩⟩; (try first | exact ⟨rfl, _, World.drewN_drewN _ _ _⟩ | exact ⟨rfl, _, Eq.trans (World.drewN_drewN _ _ _) (congrArg (World.drewN _) (Nat.add_assoc _ _ _))⟩)) | (go_at_call 28; (with_reducible refine (impl_between.calls ((rd_T37 l0 x13_1).f2) (-1) (wrap64 (x13_1 - 1)) true _ A14.out).mono ?_); rintro e w' ⟨rfl, ⟨nd, rfl⟩⟩; (try first | exact ⟨rfl, _, World.drewN_drewN _ _ _⟩ | exact ⟨rfl, _, Eq.trans (World.drewN_drewN _ _ _) (congrArg (World.drewN _) (Nat.add_assoc _ _ _))⟩))))
                          go_meet
                          case rel => exact ⟨_, (false), (by first | rfl | (simp; done) | (simp [*]; done)), H', ⟨by have := HK1.out; first | omega | exact Nat.le_refl _⟩, ⟨by (with_reducible repeat (first | refine blk_drewN ?_ _ | refine blk_drew ?_ | refine blk_alloc ?_ _)); refine blk_put (cs := #[.int .i64 ((rd_T37 l0 x13_1).f0), .int .i64 ((rd_T37 l0 x13_1).f1), .int .i64 0]) ?_ 2 _ rfl; (with_reducible repeat (first | refine blk_drewN ?_ _ | refine blk_drew ?_ | refine blk_alloc ?_ _)); refine blk_put (cs := #[.int .i64 ((rd_T37 l0 x13_1).f0), .int .i64 0, .int .i64 0]) ?_ 1 _ rfl; (with_reducible repeat (first | refine blk_drewN ?_ _ | refine blk_drew ?_ | refine blk_alloc ?_ _)); refine blk_put (cs := #[.int .i64 0, .int .i64 0, .int .i64 0]) ?_ 0 _ rfl; (with_reducible repeat (first | refine blk_drewN ?_ _ | refine blk_drew ?_ | refine blk_alloc ?_ _)); exact BK175.out⟩, ⟨by repeat (first | (with_reducible first | exact HB.out | apply below_alloc | apply pw_below_drewN | apply below_drew1 | refine below_set ?_ GE175.out) | exact HB.out)⟩⟩
                    · replace c15 := Bool.eq_false_iff.mpr c15
                      subst c15
                      have H1 : (impl_IsFamily.j1 k1 l0 l0 (l0.length : Int) x13_1 true ((rd_T37 l0 x13_1).f0) ((rd_T37 l0 x13_1).f1) ((rd_T37 l0 x13_1).f2)) = some r := by rw [if_neg (show ¬ (false = true) by decide)] at H; exact H
                      clear H
                      have H := H1
                      clear H1
                      have H' := Aside0.mk H
                      clear H
                      have hcz25_0 : w8.cell? ⟨gb175, 0, none⟩ = some (.int .i64 0) := (blk_cell BK175.out 0).trans rfl
                      have hcz25_1 : w8.cell? ⟨gb175, 1, none⟩ = some (.int .i64 0) := (blk_cell BK175.out 1).trans rfl
                      have hcz25_2 : w8.cell? ⟨gb175, 2, none⟩ = some (.int .i64 0) := (blk_cell BK175.out 2).trans rfl
                      have hfz25_0 := blk_frozen BK175.out 0
                      have hfz25_1 := blk_frozen BK175.out 1
                      have hfz25_2 := blk_frozen BK175.out 2
                      go_wp2_with (first | (go_at_call 28; (with_reducible refine (impl_between.calls ((rd_T37 l0 x13_1).f0) 0 3000 true _ A10.out).mono ?_); rintro e w' ⟨rfl, ⟨nd, rfl⟩⟩; (try first | exact ⟨rfl, _, World.drewN_drewN _ _ _⟩ | exact ⟨rfl, _, Eq.trans (World.drewN_drewN _ _ _) (congrArg (World.drewN _) (Nat.add_assoc _ _ _))⟩)) | (go_at_call 28; (with_reducible refine (impl_between.calls ((rd_T37 l0 x13_1).f1) (-1) (wrap64 (x13_1 - 1)) true _ A12.out).mono ?_); rintro e w' ⟨rfl, ⟨nd, rfl⟩⟩; (try first | exact ⟨rfl, _, World.drewN_drewN _ _ _⟩ | exact ⟨rfl, _, Eq.trans (World.drewN_drewN _ _ _) (congrArg (World.drewN _) (Nat.add_assoc _ _ _))⟩)) | (go_at_call 28; (with_reducible refine (impl_between.calls ((rd_T37 l0 x13_1).f2) (-1) (wrap64 (x13_1 - 1)) false _ A14.out).mono ?_); rintro e w' ⟨rfl, ⟨nd, rfl⟩⟩; (try first | exact ⟨rfl, _, World.drewN_drewN _ _ _⟩ | exact ⟨rfl, _, Eq.trans (World.drewN_drewN _ _ _) (congrArg (World.drewN _) (Nat.add_assoc _ _ _))⟩)))
                      repeat (go_quiet (first | (go_at_call 28; (with_reducible refine (impl_between.calls ((rd_T37 l0 x13_1).f0) 0 3000 true _ A10.out).mono ?_); rintro e w' ⟨rfl, ⟨nd, rfl⟩⟩; (try first | exact ⟨rfl, _, World.drewN_drewN _ _ _⟩ | exact ⟨rfl, _, Eq.trans (World.drewN_drewN _ _ _) (congrArg (World.drewN _) (Nat.add_assoc _ _ _))⟩)) | (go_at_call 28; (with_reducible refine (impl_between.calls ((rd_T37 l0 x13_1).f1) (-1) (wrap64 (x13_1 - 1)) true _ A12.out).mono ?_); rintro e w' ⟨rfl, ⟨nd, rfl⟩⟩; (try first | exact ⟨rfl, _, World.drewN_drewN _ _ _⟩ | exact ⟨rfl, _, Eq.trans (World.drewN_drewN _ _ _) (congrArg (World.drewN _) (Nat.add_assoc _ _ _))⟩)) | (go_at_call 28; (with_reducible refine (impl_between.calls ((rd_T37 l0 x13_1).f2) (-1) (wrap64 (x13_1 - 1)) false _ A14.out).mono ?_); rintro e w' ⟨rfl, ⟨nd, rfl⟩⟩; (try first | exact ⟨rfl, _, World.drewN_drewN _ _ _⟩ | exact ⟨rfl, _, Eq.trans (World.drewN_drewN _ _ _) (congrArg (World.drewN _) (Nat.add_assoc _ _ _))⟩))); try go_wp2_with (first | (go_at_call 28; (with_reducible refine (impl_between.calls ((rd_T37 l0 x13_1).f0) 0 3000 true _ A10.out).mono ?_); rintro e w' ⟨rfl, ⟨nd, rfl⟩⟩; (try first | exact ⟨rfl, _, World.drewN_drewN _ _ _⟩ | exact ⟨rfl, _, Eq.trans (World.drewN_drewN _ _ _) (congrArg (World.drewN _) (Nat.add_assoc _ _ _))⟩)) | (go_at_call 28; (with_reducible refine (impl_between.calls ((rd_T37 l0 x13_1).f1) (-1) (wrap64 (x13_1 - 1)) true _ A12.out).mono ?_); rintro e w' ⟨rfl, ⟨nd, rfl⟩⟩; (try first | exact ⟨rfl, _, World.drewN_drewN _ _ _⟩ | exact ⟨rfl, _, Eq.trans (World.drewN_drewN _ _ _) (congrArg (World.drewN _) (Nat.add_assoc _ _ _))⟩)) | (go_at_call 28; (with_reducible refine (impl_between.calls ((rd_T37 l0 x13_1).f2) (-1) (wrap64 (x13_1 - 1)) false _ A14.out).mono ?_); rintro e w' ⟨rfl, ⟨nd, rfl⟩⟩; (try first | exact ⟨rfl, _, World.drewN_drewN _ _ _⟩ | exact ⟨rfl, _, Eq.trans (World.drewN_drewN _ _ _) (congrArg (World.drewN _) (Nat.add_assoc _ _ _))⟩))))
                      go_meet
                      case rel => exact ⟨_, (true), (by first | rfl | (simp; done) | (simp [*]; done)), H', ⟨by have := HK1.out; first | omega | exact Nat.le_refl _⟩, ⟨by (with_reducible repeat (first | refine blk_drewN ?_ _ | refine blk_drew ?_ | refine blk_alloc ?_ _)); refine blk_put (cs := #[.int .i64 ((rd_T37 l0 x13_1).f0), .int .i64 ((rd_T37 l0 x13_1).f1), .int .i64 0]) ?_ 2 _ rfl; (with_reducible repeat (first | refine blk_drewN ?_ _ | refine blk_drew ?_ | refine blk_alloc ?_ _)); refine blk_put (cs := #[.int .i64 ((rd_T37 l0 x13_1).f0), .int .i64 0, .int .i64 0]) ?_ 1 _ rfl; (with_reducible repeat (first | refine blk_drewN ?_ _ | refine blk_drew ?_ | refine blk_alloc ?_ _)); refine blk_put (cs := #[.int .i64 0, .int .i64 0, .int .i64 0]) ?_ 0 _ rfl; (with_reducible repeat (first | refine blk_drewN ?_ _ | refine blk_drew ?_ | refine blk_alloc ?_ _)); exact BK175.out⟩, ⟨by repeat (first | (with_reducible first | exact HB.out | apply below_alloc | apply pw_below_drewN | apply below_drew1 | refine below_set ?_ GE175.out) | exact HB.out)⟩⟩
                  · replace c13 := Bool.eq_false_iff.mpr c13
                    subst c13
                    have H1 : (impl_IsFamily.j1 k1 l0 l0 (l0.length : Int) x13_1 true ((rd_T37 l0 x13_1).f0) ((rd_T37 l0 x13_1).f1) ((rd_T37 l0 x13_1).f2)) = some r := by rw [if_neg (show ¬ (false = true) by decide)] at H; exact H
                    clear H
                    have H := H1
                    clear H1
                    have H' := Aside0.mk H
                    clear H
                    have hcz26_0 : w8.cell? ⟨gb175, 0, none⟩ = some (.int .i64 0) := (blk_cell BK175.out 0).trans rfl
                    have hcz26_1 : w8.cell? ⟨gb175, 1, none⟩ = some (.int .i64 0) := (blk_cell BK175.out 1).trans rfl
                    have hcz26_2 : w8.cell? ⟨gb175, 2, none⟩ = some (.int .i64 0) := (blk_cell BK175.out 2).trans rfl
                    have hfz26_0 := blk_frozen BK175.out 0
                    have hfz26_1 := blk_frozen BK175.out 1
                    have hfz26_2 := blk_frozen BK175.out 2
                    go_wp2_with (first | (go_at_call 28; (with_reducible refine (impl_between.calls ((rd_T37 l0 x13_1).f0) 0 3000 true _ A10.out).mono ?_); rintro e w' ⟨rfl, ⟨nd, rfl⟩⟩; (try first | exact ⟨rfl, _, World.drewN_drewN _ _ _⟩ | exact ⟨rfl, _, Eq.trans (World.drewN_drewN _ _ _) (congrArg (World.drewN _) (Nat.add_assoc _ _ _))⟩)) | (go_at_call 28; (with_reducible refine (impl_between.calls ((rd_T37 l0 x13_1).f1) (-1) (wrap64 (x13_1 - 1)) false _ A12.out).mono ?_); rintro e w' ⟨rfl, ⟨nd, rfl⟩⟩; (try first | exact ⟨rfl, _, World.drewN_drewN _ _ _⟩ | exact ⟨rfl, _, Eq.trans (World.drewN_drewN _ _ _) (congrArg (World.drewN _) (Nat.add_assoc _ _ _))⟩)))
                    repeat (go_quiet (first | (go_at_call 28; (with_reducible refine (impl_between.calls ((rd_T37 l0 x13_1).f0) 0 3000 true _ A10.out).mono ?_); rintro e w' ⟨rfl, ⟨nd, rfl⟩⟩; (try first | exact ⟨rfl, _, World.drewN_drewN _ _ _⟩ | exact ⟨rfl, _, Eq.trans (World.drewN_drewN _ _ _) (congrArg (World.drewN _) (Nat.add_assoc _ _ _))⟩)) | (go_at_call 28; (with_reducible refine (impl_between.calls ((rd_T37 l0 x13_1).f1) (-1) (wrap64 (x13_1 - 1)) false _ A12.out).mono ?_); rintro e w' ⟨rfl, ⟨nd, rfl⟩⟩; (try first | exact ⟨rfl, _, World.drewN_drewN _ _ _⟩ | exact ⟨rfl, _, Eq.trans (World.drewN_drewN _ _ _) (congrArg (World.drewN _) (Nat.add_assoc _ _ _))⟩))); try go_wp2_with (first | (go_at_call 28; (with_reducible refine (impl_between.calls ((rd_T37 l0 x13_1).f0) 0 3000 true _ A10.out).mono ?_); rintro e w' ⟨rfl, ⟨nd, rfl⟩⟩; (try first | exact ⟨rfl, _, World.drewN_drewN _ _ _⟩ | exact ⟨rfl, _, Eq.trans (World.drewN_drewN _ _ _) (congrArg (World.drewN _) (Nat.add_assoc _ _ _))⟩)) | (go_at_call 28; (with_reducible refine (impl_between.calls ((rd_T37 l0 x13_1).f1) (-1) (wrap64 (x13_1 - 1)) false _ A12.out).mono ?_); rintro e w' ⟨rfl, ⟨nd, rfl⟩⟩; (try first | exact ⟨rfl, _, World.drewN_drewN _ _ _⟩ | exact ⟨rfl, _, Eq.trans (World.drewN_drewN _ _ _) (congrArg (World.drewN _) (Nat.add_assoc _ _ _))⟩))))
                    go_meet
                    case rel => exact ⟨_, (true), (by first | rfl | (simp; done) | (simp [*]; done)), H', ⟨by have := HK1.out; first | omega | exact Nat.le_refl _⟩, ⟨by (with_reducible repeat (first | refine blk_drewN ?_ _ | refine blk_drew ?_ | refine blk_alloc ?_ _)); refine blk_put (cs := #[.int .i64 ((rd_T37 l0 x13_1).f0), .int .i64 ((rd_T37 l0 x13_1).f1), .int .i64 0]) ?_ 2 _ rfl; (with_reducible repeat (first | refine blk_drewN ?_ _ | refine blk_drew ?_ | refine blk_alloc ?_ _)); refine blk_put (cs := #[.int .i64 ((rd_T37 l0 x13_1).f0), .int .i64 0, .int .i64 0]) ?_ 1 _ rfl; (with_reducible repeat (first | refine blk_drewN ?_ _ | refine blk_drew ?_ | refine blk_alloc ?_ _)); refine blk_put (cs := #[.int .i64 0, .int .i64 0, .int .i64 0]) ?_ 0 _ rfl; (with_reducible repeat (first | refine blk_drewN ?_ _ | refine blk_drew ?_ | refine blk_alloc ?_ _)); exact BK175.out⟩, ⟨by repeat (first | (with_reducible first | exact HB.out | apply below_alloc | apply pw_below_drewN | apply below_drew1 | refine below_set ?_ GE175.out) | exact HB.out)⟩⟩
                · replace c11 := Bool.eq_false_iff.mpr c11
                  subst c11
                  have H1 : (impl_IsFamily.j1 k1 l0 l0 (l0.length : Int) x13_1 true ((rd_T37 l0 x13_1).f0) ((rd_T37 l0 x13_1).f1) ((rd_T37 l0 x13_1).f2)) = some r := by rw [if_neg (show ¬ (false = true) by decide)] at H; exact H
                  clear H
                  have H := H1
                  clear H1
                  have H' := Aside0.mk H
                  clear H
                  have hcz27_0 : w8.cell? ⟨gb175, 0, none⟩ = some (.int .i64 0) := (blk_cell BK175.out 0).trans rfl
                  have hcz27_1 : w8.cell? ⟨gb175, 1, none⟩ = some (.int .i64 0) := (blk_cell BK175.out 1).trans rfl
                  have hcz27_2 : w8.cell? ⟨gb175, 2, none⟩ = some (.int .i64 0) := (blk_cell BK175.out 2).trans rfl
                  have hfz27_0 := blk_frozen BK175.out 0
                  have hfz27_1 := blk_frozen BK175.out 1
                  have hfz27_2 := blk_frozen BK175.out 2
                  go_wp2_with (first | (go_at_call 28; (with_reducible refine (impl_between.calls ((rd_T37 l0 x13_1).f0) 0 3000 false _ A10.out).mono ?_); rintro e w' ⟨rfl, ⟨nd, rfl⟩⟩; (try first | exact ⟨rfl, _, World.drewN_drewN _ _ _⟩ | exact ⟨rfl, _, Eq.trans (World.drewN_drewN _ _ _) (congrArg (World.drewN _) (Nat.add_assoc _ _ _))⟩)))
                  repeat (go_quiet (first | (go_at_call 28; (with_reducible refine (impl_between.calls ((rd_T37 l0 x13_1).f0) 0 3000 false _ A10.out).mono ?_); rintro e w' ⟨rfl, ⟨nd, rfl⟩⟩; (try first | exact ⟨rfl, _, World.drewN_drewN _ _ _⟩ | exact ⟨rfl, _, Eq.trans (World.drewN_drewN _ _ _) (congrArg (World.drewN _) (Nat.add_assoc _ _ _))⟩))); try go_wp2_with (first | (go_at_call 28; (with_reducible refine (impl_between.calls ((rd_T37 l0 x13_1).f0) 0 3000 false _ A10.out).mono ?_); rintro e w' ⟨rfl, ⟨nd, rfl⟩⟩; (try first | exact ⟨rfl, _, World.drewN_drewN _ _ _⟩ | exact ⟨rfl, _, Eq.trans (World.drewN_drewN _ _ _) (congrArg (World.drewN _) (Nat.add_assoc _ _ _))⟩))))
                  go_meet
                  case rel => exact ⟨_, (true), (by first | rfl | (simp; done) | (simp [*]; done)), H', ⟨by have := HK1.out; first | omega | exact Nat.le_refl _⟩, ⟨by (with_reducible repeat (first | refine blk_drewN ?_ _ | refine blk_drew ?_ | refine blk_alloc ?_ _)); refine blk_put (cs := #[.int .i64 ((rd_T37 l0 x13_1).f0), .int .i64 ((rd_T37 l0 x13_1).f1), .int .i64 0]) ?_ 2 _ rfl; (with_reducible repeat (first | refine blk_drewN ?_ _ | refine blk_drew ?_ | refine blk_alloc ?_ _)); refine blk_put (cs := #[.int .i64 ((rd_T37 l0 x13_1).f0), .int .i64 0, .int .i64 0]) ?_ 1 _ rfl; (with_reducible repeat (first | refine blk_drewN ?_ _ | refine blk_drew ?_ | refine blk_alloc ?_ _)); refine blk_put (cs := #[.int .i64 0, .int .i64 0, .int .i64 0]) ?_ 0 _ rfl; (with_reducible repeat (first | refine blk_drewN ?_ _ | refine blk_drew ?_ | refine blk_alloc ?_ _)); exact BK175.out⟩, ⟨by repeat (first | (with_reducible first | exact HB.out | apply below_alloc | apply pw_below_drewN | apply below_drew1 | refine below_set ?_ GE175.out) | exact HB.out)⟩⟩
              case rest =>
                clear HC7
                try clear c1
                try clear p1
                try clear q1
                try clear hx1
                try clear c2
                try clear p2
                try clear c3
                try clear c4
                try clear c4b0
                try clear c5
                try clear c5b0
                try clear c6
                try clear c6b0
                try clear p6
                try clear c11
                try clear c13
                try clear c15
                try clear c16
                try clear c16b0
                try clear c17
                try clear c17b0
                try clear p17
                try clear q17
                try clear hx17
                try clear c19
                try clear c19b0
                try clear c22
                try clear c22b0
                try clear hcz18_0
                try clear hcz18_1
                try clear hcz18_2
                try clear hcz20_0
                try clear hcz20_1
                try clear hcz20_2
                try clear hcz21_0
                try clear hcz21_1
                try clear hcz21_2
                try clear hcz23_0
                try clear hcz23_1
                try clear hcz23_2
                try clear hcz24_0
                try clear hcz24_1
                try clear hcz24_2
                try clear hcz25_0
                try clear hcz25_1
                try clear hcz25_2
                try clear hcz26_0
                try clear hcz26_1
                try clear hcz26_2
                try clear hcz27_0
                try clear hcz27_1
                try clear hcz27_2
                try clear hcz9_0
                try clear hcz9_1
                try clear hcz9_2
                try clear hfz18_0
                try clear hfz18_1
                try clear hfz18_2
                try clear hfz20_0
                try clear hfz20_1
                try clear hfz20_2
                try clear hfz21_0
                try clear hfz21_1
                try clear hfz21_2
                try clear hfz23_0
                try clear hfz23_1
                try clear hfz23_2
                try clear hfz24_0
                try clear hfz24_1
                try clear hfz24_2
                try clear hfz25_0
                try clear hfz25_1
                try clear hfz25_2
                try clear hfz26_0
                try clear hfz26_1
                try clear hfz26_2
                try clear hfz27_0
                try clear hfz27_1
                try clear hfz27_2
                try clear hfz9_0
                try clear hfz9_1
                try clear hfz9_2
                try clear hx174_0
                try clear hx174_1
                try clear hx174_2
                try clear p174
                try clear p2
                try clear q174
                obtain ⟨kq, x59_6, rfl, HA, HJ6, BK175, HB⟩ := hcut
                cases kq with
                | zero => exact absurd HA.out (by simp [impl_IsFamily.j1])
                | succ kj6 =>
                  have H := HA.out
                  clear HA
                  simp only [impl_IsFamily.j1] at H
                  by_cases c28 : x59_6 = true
                  · subst c28
                    have H1 : (some false) = some r := by rw [if_pos rfl] at H; exact H
                    clear H
                    have H := H1
                    clear H1
                    obtain rfl := Option.some.inj H
                    go_wp2
                    repeat (go_quiet (fail); try go_wp2)
                    go_ret
                    exact ⟨by first | rfl | (simp [errW_none, errW_some] <;> rfl) | (simp [*, errW_none, errW_some] <;> rfl), by repeat (first | (with_reducible first | exact HB.out | apply below_alloc | apply pw_below_drewN | apply below_drew1 | refine below_set ?_ GE175.out) | exact HB.out)⟩
                  · replace c28 := Bool.eq_false_iff.mpr c28
                    subst c28
                    have H1 : ((impl_Kin_parents.f ((rd_T37 l0 x13_1).f0) ((rd_T37 l0 x13_1).f1) ((rd_T37 l0 x13_1).f2)).bind fun t179 => (impl_IsFamily.l1 kj6 l0 l0 (l0.length : Int) x13_1 t179 (t179.length : Int) 0 ((rd_T37 l0 x13_1).f0) ((rd_T37 l0 x13_1).f1) ((rd_T37 l0 x13_1).f2))) = some r := by rw [if_neg (show ¬ (false = true) by decide)] at H; exact H
                    clear H
                    have H := H1
                    clear H1
                    replace H := Option.bind_eq_some_iff.mp H
                    obtain ⟨t179, A290, H⟩ := H
                    replace H : (impl_IsFamily.l1 kj6 l0 l0 (l0.length : Int) x13_1 t179 (t179.length : Int) 0 ((rd_T37 l0 x13_1).f0) ((rd_T37 l0 x13_1).f1) ((rd_T37 l0 x13_1).f2)) = some r := H
                    have A29 := Aside0.mk A290
                    clear A290
                    have H' := Aside0.mk H
                    clear H
                    have hcz30_0 : wc.cell? ⟨gb175, 0, none⟩ = some (.int .i64 ((rd_T37 l0 x13_1).f0)) := (blk_cell BK175.out 0).trans rfl
                    have hcz30_1 : wc.cell? ⟨gb175, 1, none⟩ = some (.int .i64 ((rd_T37 l0 x13_1).f1)) := (blk_cell BK175.out 1).trans rfl
                    have hcz30_2 : wc.cell? ⟨gb175, 2, none⟩ = some (.int .i64 ((rd_T37 l0 x13_1).f2)) := (blk_cell BK175.out 2).trans rfl
                    have hfz30_0 := blk_frozen BK175.out 0
                    have hfz30_1 := blk_frozen BK175.out 1
                    have hfz30_2 := blk_frozen BK175.out 2
                    go_wp2_with (first | (go_at_call 29; (with_reducible refine (impl_Kin_parents.calls ((rd_T37 l0 x13_1).f0) ((rd_T37 l0 x13_1).f1) ((rd_T37 l0 x13_1).f2) t179 _ A29.out).mono ?_); rintro e w31 ⟨v180, rfl, ho0, hb⟩; have n0_ := Aside0.mk (Kd.R_lower ho0 (below_size (by repeat (first | (with_reducible first | exact HB.out | apply below_alloc | apply pw_below_drewN | apply below_drew1 | refine below_set ?_ GE175.out) | exact HB.out)))); have n1_ := Aside0.mk (blk_below (g := gb175) (o := .cells #[.int .i64 ((rd_T37 l0 x13_1).f0), .int .i64 ((rd_T37 l0 x13_1).f1), .int .i64 ((rd_T37 l0 x13_1).f2)] 37 (0, 0)) (by (with_reducible repeat (first | refine blk_drewN ?_ _ | refine blk_drew ?_ | refine blk_alloc ?_ _)); exact BK175.out) hb); have n2_ := Aside0.mk (below_step (by repeat (first | (with_reducible first | exact HB.out | apply below_alloc | apply pw_below_drewN | apply below_drew1 | refine below_set ?_ GE175.out) | exact HB.out)) hb); clear BK175; clear HB; have HO181 := n0_; have BK175 := n1_; have HB := n2_; clear n0_ n1_ n2_; (try clear hb); (try clear hb2); (try clear hk); (try clear hi); (try clear ho0); obtain ⟨Ao32, co32, eo32⟩ := Kd.R_slice HO181.out; subst eo32))
                    repeat (go_quiet (first | (go_at_call 29; (with_reducible refine (impl_Kin_parents.calls ((rd_T37 l0 x13_1).f0) ((rd_T37 l0 x13_1).f1) ((rd_T37 l0 x13_1).f2) t179 _ A29.out).mono ?_); rintro e w31 ⟨v180, rfl, ho0, hb⟩; have n0_ := Aside0.mk (Kd.R_lower ho0 (below_size (by repeat (first | (with_reducible first | exact HB.out | apply below_alloc | apply pw_below_drewN | apply below_drew1 | refine below_set ?_ GE175.out) | exact HB.out)))); have n1_ := Aside0.mk (blk_below (g := gb175) (o := .cells #[.int .i64 ((rd_T37 l0 x13_1).f0), .int .i64 ((rd_T37 l0 x13_1).f1), .int .i64 ((rd_T37 l0 x13_1).f2)] 37 (0, 0)) (by (with_reducible repeat (first | refine blk_drewN ?_ _ | refine blk_drew ?_ | refine blk_alloc ?_ _)); exact BK175.out) hb); have n2_ := Aside0.mk (below_step (by repeat (first | (with_reducible first | exact HB.out | apply below_alloc | apply pw_below_drewN | apply below_drew1 | refine below_set ?_ GE175.out) | exact HB.out)) hb); clear BK175; clear HB; have HO181 := n0_; have BK175 := n1_; have HB := n2_; clear n0_ n1_ n2_; (try clear hb); (try clear hb2); (try clear hk); (try clear hi); (try clear ho0); obtain ⟨Ao32, co32, eo32⟩ := Kd.R_slice HO181.out; subst eo32)); try go_wp2_with (first | (go_at_call 29; (with_reducible refine (impl_Kin_parents.calls ((rd_T37 l0 x13_1).f0) ((rd_T37 l0 x13_1).f1) ((rd_T37 l0 x13_1).f2) t179 _ A29.out).mono ?_); rintro e w31 ⟨v180, rfl, ho0, hb⟩; have n0_ := Aside0.mk (Kd.R_lower ho0 (below_size (by repeat (first | (with_reducible first | exact HB.out | apply below_alloc | apply pw_below_drewN | apply below_drew1 | refine below_set ?_ GE175.out) | exact HB.out)))); have n1_ := Aside0.mk (blk_below (g := gb175) (o := .cells #[.int .i64 ((rd_T37 l0 x13_1).f0), .int .i64 ((rd_T37 l0 x13_1).f1), .int .i64 ((rd_T37 l0 x13_1).f2)] 37 (0, 0)) (by (with_reducible repeat (first | refine blk_drewN ?_ _ | refine blk_drew ?_ | refine blk_alloc ?_ _)); exact BK175.out) hb); have n2_ := Aside0.mk (below_step (by repeat (first | (with_reducible first | exact HB.out | apply below_alloc | apply pw_below_drewN | apply below_drew1 | refine below_set ?_ GE175.out) | exact HB.out)) hb); clear BK175; clear HB; have HO181 := n0_; have BK175 := n1_; have HB := n2_; clear n0_ n1_ n2_; (try clear hb); (try clear hb2); (try clear hk); (try clear hi); (try clear ho0); obtain ⟨Ao32, co32, eo32⟩ := Kd.R_slice HO181.out; subst eo32)))
                    go_loopg [63] kj6 (fun kq v63 w' => ∃ (x63_3 : Int), v63 = .int .i64 x63_3 ∧ Aside0 (impl_IsFamily.l1 kq l0 l0 (l0.length : Int) x13_1 t179 (t179.length : Int) x63_3 ((rd_T37 l0 x13_1).f0) ((rd_T37 l0 x13_1).f1) ((rd_T37 l0 x13_1).f2) = some r) ∧ Aside0 (kq ≤ kj6) ∧ Aside0 (Kd.R (Kd.int .i64) 3 w' w.heap.size (fun _ => True) (.slice Ao32 t179.length co32) t179) ∧ Aside0 (w'.heap[gb175]? = some (.cells #[.int .i64 ((rd_T37 l0 x13_1).f0), .int .i64 ((rd_T37 l0 x13_1).f1), .int .i64 ((rd_T37 l0 x13_1).f2)] 37 (0, 0))) ∧ Aside0 (Below w.heap.size w w'))
                    case atStart => exact ⟨(0), (by first | rfl | (simp; done) | (simp [*]; done)), H', ⟨Nat.le_refl _⟩, ⟨by (with_reducible repeat (first | apply Kd.R_alloc | apply Kd.R_drewN | apply Kd.R_drew)); exact HO181.out⟩, ⟨by (with_reducible repeat (first | refine blk_drewN ?_ _ | refine blk_drew ?_ | refine blk_alloc ?_ _)); exact BK175.out⟩, ⟨by repeat (first | (with_reducible first | exact HB.out | apply below_alloc | apply pw_below_drewN | apply below_drew1 | refine below_set ?_ GE175.out) | exact HB.out)⟩⟩
                    case round =>
                      clear H'
                      try clear c1
                      try clear p1
                      try clear q1
                      try clear hx1
                      try clear c2
                      try clear p2
                      try clear c3
                      try clear c4
                      try clear c4b0
                      try clear c5
                      try clear c5b0
                      try clear c6
                      try clear c6b0
                      try clear p6
                      try clear c11
                      try clear c13
                      try clear c15
                      try clear c16
                      try clear c16b0
                      try clear c17
                      try clear c17b0
                      try clear p17
                      try clear q17
                      try clear hx17
                      try clear c19
                      try clear c19b0
                      try clear c22
                      try clear c22b0
                      try clear c28
                      try clear hcz18_0
                      try clear hcz18_1
                      try clear hcz18_2
                      try clear hcz20_0
                      try clear hcz20_1
                      try clear hcz20_2
                      try clear hcz21_0
                      try clear hcz21_1
                      try clear hcz21_2
                      try clear hcz23_0
                      try clear hcz23_1
                      try clear hcz23_2
                      try clear hcz24_0
                      try clear hcz24_1
                      try clear hcz24_2
                      try clear hcz25_0
                      try clear hcz25_1
                      try clear hcz25_2
                      try clear hcz26_0
                      try clear hcz26_1
                      try clear hcz26_2
                      try clear hcz27_0
                      try clear hcz27_1
                      try clear hcz27_2
                      try clear hcz30_0
                      try clear hcz30_1
                      try clear hcz30_2
                      try clear hcz9_0
                      try clear hcz9_1
                      try clear hcz9_2
                      try clear hfz18_0
                      try clear hfz18_1
                      try clear hfz18_2
                      try clear hfz20_0
                      try clear hfz20_1
                      try clear hfz20_2
                      try clear hfz21_0
                      try clear hfz21_1
                      try clear hfz21_2
                      try clear hfz23_0
                      try clear hfz23_1
                      try clear hfz23_2
                      try clear hfz24_0
                      try clear hfz24_1
                      try clear hfz24_2
                      try clear hfz25_0
                      try clear hfz25_1
                      try clear hfz25_2
                      try clear hfz26_0
                      try clear hfz26_1
                      try clear hfz26_2
                      try clear hfz27_0
                      try clear hfz27_1
                      try clear hfz27_2
                      try clear hfz30_0
                      try clear hfz30_1
                      try clear hfz30_2
                      try clear hfz9_0
                      try clear hfz9_1
                      try clear hfz9_2
                      try clear hx174_0
                      try clear hx174_1
                      try clear hx174_2
                      try clear p1
                      try clear p17
                      try clear p174
                      try clear p2
                      try clear p6
                      try clear q1
                      try clear q17
                      try clear q174
                      obtain ⟨x63_3, rfl, HA, HK3, HO_61, BK175, HB⟩ := hrel
                      cases gk with
                      | zero => exact absurd HA.out (by simp [impl_IsFamily.l1])
                      | succ k3 =>
                        have H := HA.out
                        clear HA
                        simp only [impl_IsFamily.l1] at H
                        by_cases c33 : x63_3 < (t179.length : Int)
                        · rw [if_pos c33] at H
                          have c33b0 : decide (x63_3 < (t179.length : Int)) = true := decide_eq_true c33
                          clear c33
                          by_cases c34 : 0 ≤ x63_3
                          · rw [if_pos c34] at H
                            have c34b0 : decide (0 ≤ x63_3) = true := decide_eq_true c34
                            clear c34
                            by_cases c35 : x63_3 < (t179.length : Int)
                            · rw [if_pos c35] at H
                              have c35b0 : decide (x63_3 < (t179.length : Int)) = true := decide_eq_true c35
                              clear c35
                              by_cases c36 : 0 ≤ (rd t179 x63_3)
                              · rw [if_pos c36] at H
                                have c36b0 : decide (0 ≤ (rd t179 x63_3)) = true := decide_eq_true c36
                                clear c36
                                by_cases c37 : (rd t179 x63_3) < (l0.length : Int)
                                · rw [if_pos c37] at H
                                  have c37b0 : decide ((rd t179 x63_3) < (l0.length : Int)) = true := decide_eq_true c37
                                  clear c37
                                  by_cases c38 : (wrap64 (((rd_T37 l0 (rd t179 x63_3)).f0) + 14)) > ((rd_T37 l0 x13_1).f0)
                                  · rw [if_pos c38] at H
                                    have c38b0 : decide (((rd_T37 l0 x13_1).f0) < (wrap64 (((rd_T37 l0 (rd t179 x63_3)).f0) + 14))) = true := decide_eq_true c38
                                    clear c38
                                    obtain rfl := Option.some.inj H
                                    have p182 : 0 ≤ (x63_3 : Int) := of_decide_eq_true (by first | (with_reducible assumption) | assumption)
                                    have q182 : x63_3 < (t179.length : Int) := of_decide_eq_true (by first | (with_reducible assumption) | assumption)
                                    obtain ⟨ad182, e182, hx182_0⟩ := Kd.at_int (Kd.R_reads' HO_61.out).2.2 x63_3 p182 q182
                                    cases e182
                                    replace p182 := eq_true p182
                                    replace q182 := eq_true q182
                                    have p183 : 0 ≤ ((rd t179 x63_3) : Int) := of_decide_eq_true (by first | (with_reducible assumption) | assumption)
                                    have q183 : (rd t179 x63_3) < (l0.length : Int) := of_decide_eq_true (by first | (with_reducible assumption) | assumption)
                                    obtain ⟨ad183, e183, hx183_0, hx183_1, hx183_2⟩ := at_T37 HR0.out (rd t179 x63_3) p183 q183
                                    obtain rfl : ad174 = ad183 := (by injection e183)
                                    replace hx183_0 := (HB.out.cell (World.block_lt_of_cell? w _ hx183_0)).trans hx183_0
                                    replace hx183_1 := (HB.out.cell (World.block_lt_of_cell? w _ hx183_1)).trans hx183_1
                                    replace hx183_2 := (HB.out.cell (World.block_lt_of_cell? w _ hx183_2)).trans hx183_2
                                    replace p183 := eq_true p183
                                    replace q183 := eq_true q183
                                    have hcz39_0 : wr.cell? ⟨gb175, 0, none⟩ = some (.int .i64 ((rd_T37 l0 x13_1).f0)) := (blk_cell BK175.out 0).trans rfl
                                    have hcz39_1 : wr.cell? ⟨gb175, 1, none⟩ = some (.int .i64 ((rd_T37 l0 x13_1).f1)) := (blk_cell BK175.out 1).trans rfl
                                    have hcz39_2 : wr.cell? ⟨gb175, 2, none⟩ = some (.int .i64 ((rd_T37 l0 x13_1).f2)) := (blk_cell BK175.out 2).trans rfl
                                    have hfz39_0 := blk_frozen BK175.out 0
                                    have hfz39_1 := blk_frozen BK175.out 1
                                    have hfz39_2 := blk_frozen BK175.out 2
                                    go_wp2
                                    repeat (go_quiet (fail); try go_wp2)
                                    go_ret
                                    exact ⟨by first | rfl | (simp [errW_none, errW_some] <;> rfl) | (simp [*, errW_none, errW_some] <;> rfl), by repeat (first | (with_reducible first | exact HB.out | apply below_alloc | apply pw_below_drewN | apply below_drew1 | refine below_set ?_ GE175.out) | exact HB.out)⟩
                                  · rw [if_neg c38] at H
                                    have c38b0 : decide (((rd_T37 l0 x13_1).f0) < (wrap64 (((rd_T37 l0 (rd t179 x63_3)).f0) + 14))) = false := decide_eq_false c38
                                    clear c38
                                    have H' := Aside0.mk H
                                    clear H
                                    have p182 : 0 ≤ (x63_3 : Int) := of_decide_eq_true (by first | (with_reducible assumption) | assumption)
                                    have q182 : x63_3 < (t179.length : Int) := of_decide_eq_true (by first | (with_reducible assumption) | assumption)
                                    obtain ⟨ad182, e182, hx182_0⟩ := Kd.at_int (Kd.R_reads' HO_61.out).2.2 x63_3 p182 q182
                                    cases e182
                                    replace p182 := eq_true p182
                                    replace q182 := eq_true q182
                                    have p183 : 0 ≤ ((rd t179 x63_3) : Int) := of_decide_eq_true (by first | (with_reducible assumption) | assumption)
                                    have q183 : (rd t179 x63_3) < (l0.length : Int) := of_decide_eq_true (by first | (with_reducible assumption) | assumption)
                                    obtain ⟨ad183, e183, hx183_0, hx183_1, hx183_2⟩ := at_T37 HR0.out (rd t179 x63_3) p183 q183
                                    obtain rfl : ad174 = ad183 := (by injection e183)
                                    replace hx183_0 := (HB.out.cell (World.block_lt_of_cell? w _ hx183_0)).trans hx183_0
                                    replace hx183_1 := (HB.out.cell (World.block_lt_of_cell? w _ hx183_1)).trans hx183_1
                                    replace hx183_2 := (HB.out.cell (World.block_lt_of_cell? w _ hx183_2)).trans hx183_2
                                    replace p183 := eq_true p183
                                    replace q183 := eq_true q183
                                    have hcz40_0 : wr.cell? ⟨gb175, 0, none⟩ = some (.int .i64 ((rd_T37 l0 x13_1).f0)) := (blk_cell BK175.out 0).trans rfl
                                    have hcz40_1 : wr.cell? ⟨gb175, 1, none⟩ = some (.int .i64 ((rd_T37 l0 x13_1).f1)) := (blk_cell BK175.out 1).trans rfl
                                    have hcz40_2 : wr.cell? ⟨gb175, 2, none⟩ = some (.int .i64 ((rd_T37 l0 x13_1).f2)) := (blk_cell BK175.out 2).trans rfl
                                    have hfz40_0 := blk_frozen BK175.out 0
                                    have hfz40_1 := blk_frozen BK175.out 1
                                    have hfz40_2 := blk_frozen BK175.out 2
                                    go_wp2
                                    repeat (go_quiet (fail); try go_wp2)
                                    go_roundg k3
                                    case measure => have := HK1.out; have := HJ6.out; have := HK3.out; omega
                                    case rel => exact ⟨(wrap64 (x63_3 + 1)), (by first | rfl | (simp; done) | (simp [*]; done)), H', ⟨by have := HK1.out; have := HJ6.out; have := HK3.out; omega⟩, ⟨by (with_reducible repeat (first | apply Kd.R_alloc | apply Kd.R_drewN | apply Kd.R_drew)); exact HO_61.out⟩, ⟨by (with_reducible repeat (first | refine blk_drewN ?_ _ | refine blk_drew ?_ | refine blk_alloc ?_ _)); exact BK175.out⟩, ⟨by repeat (first | (with_reducible first | exact HB.out | apply below_alloc | apply pw_below_drewN | apply below_drew1 | refine below_set ?_ GE175.out) | exact HB.out)⟩⟩
                                · rw [if_neg c37] at H
                                  exact absurd H (by simp)
                              · rw [if_neg c36] at H
                                exact absurd H (by simp)
                            · rw [if_neg c35] at H
                              exact absurd H (by simp)
                          · rw [if_neg c34] at H
                            exact absurd H (by simp)
                        · rw [if_neg c33] at H
                          have c33b0 : decide (x63_3 < (t179.length : Int)) = false := decide_eq_false c33
                          clear c33
                          have H' := Aside0.mk H
                          clear H
                          go_wp2
                          repeat (go_quiet (fail); try go_wp2)
                          go_roundg k3
                          case measure => have := HK1.out; have := HJ6.out; have := HK3.out; omega
                          case rel => exact ⟨(wrap64 (x13_1 + 1)), (by first | rfl | (simp; done) | (simp [*]; done)), H', ⟨by have := HK1.out; have := HJ6.out; have := HK3.out; omega⟩, ⟨by repeat (first | (with_reducible first | exact HB.out | apply below_alloc | apply pw_below_drewN | apply below_drew1 | refine below_set ?_ GE175.out) | exact HB.out)⟩⟩
            · rw [if_neg c6] at H
              exact absurd H (by simp)
          · rw [if_neg c5] at H
            exact absurd H (by simp)
        · rw [if_neg c4] at H
          have c4b0 : decide (x13_1 < (l0.length : Int)) = false := decide_eq_false c4
          clear c4
          obtain rfl := Option.some.inj H
          go_wp2
          repeat (go_quiet (fail); try go_wp2)
          go_ret
          exact ⟨by first | rfl | (simp [errW_none, errW_some] <;> rfl) | (simp [*, errW_none, errW_some] <;> rfl), by repeat (first | (with_reducible first | exact HB.out | apply below_alloc | apply pw_below_drewN | apply below_drew1) | exact HB.out)⟩
  · replace c3 := Bool.eq_false_iff.mpr c3
    subst c3
    have H1 : (some false) = some r := by rw [if_neg (show ¬ (false = true) by decide)] at H; exact H
    clear H
    have H := H1
    clear H1
    obtain rfl := Option.some.inj H
    go_enter Tryd.func17, Tryd.ntmps17
    go_wp2_with (first | (go_at_call 28; (with_reducible refine (impl_between.calls (l0.length : Int) 1 14 false _ A2.out).mono ?_); rintro e w' ⟨rfl, ⟨nd, rfl⟩⟩; (try first | exact ⟨rfl, _, World.drewN_drewN _ _ _⟩ | exact ⟨rfl, _, Eq.trans (World.drewN_drewN _ _ _) (congrArg (World.drewN _) (Nat.add_assoc _ _ _))⟩)))
    repeat (go_quiet (first | (go_at_call 28; (with_reducible refine (impl_between.calls (l0.length : Int) 1 14 false _ A2.out).mono ?_); rintro e w' ⟨rfl, ⟨nd, rfl⟩⟩; (try first | exact ⟨rfl, _, World.drewN_drewN _ _ _⟩ | exact ⟨rfl, _, Eq.trans (World.drewN_drewN _ _ _) (congrArg (World.drewN _) (Nat.add_assoc _ _ _))⟩))); try go_wp2_with (first | (go_at_call 28; (with_reducible refine (impl_between.calls (l0.length : Int) 1 14 false _ A2.out).mono ?_); rintro e w' ⟨rfl, ⟨nd, rfl⟩⟩; (try first | exact ⟨rfl, _, World.drewN_drewN _ _ _⟩ | exact ⟨rfl, _, Eq.trans (World.drewN_drewN _ _ _) (congrArg (World.drewN _) (Nat.add_assoc _ _ _))⟩))))
    go_ret
    exact ⟨by first | rfl | (simp [errW_none, errW_some] <;> rfl) | (simp [*, errW_none, errW_some] <;> rfl), by repeat (first | (with_reducible first | exact HB.out | apply below_alloc | apply pw_below_drewN | apply below_drew1) | exact HB.out)⟩

end Go.Proofs.YtllihaahppelhaaDoor.P
