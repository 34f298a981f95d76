/- Calls of the functions of the given program return what the plain Lean functions of the same names return; and a row of a law out of its pure statement. Written by a program of this session out of the translation; Lean checks it. No condition. -/
import Derived.Test.YtllihaahppelhaaGreatPx0
import Derived.Test.YtllihaahppelhaaGreatCt
import Derived.Test.YtllihaahppelhaaGreatF0
import Derived.Test.YtllihaahppelhaaGreatHlp
import Derived.WalkSpells
import Derived.Test.YtllihaahppelhaaGreatEv
import Derived.Sort.OwnSortedInts
import Derived.Lib.OwnBridge
import Derived.Test.YtllihaahppelhaaGreatShl
namespace Go.Proofs.YtllihaahppelhaaGreat.P
open Go.RowKit Go.Proofs.YtllihaahppelhaaGreatW.PrintWords Go.Proofs.YtllihaahppelhaaGreatW.PrintLast Go.Proofs.YtllihaahppelhaaGreatW.PrintMore
attribute [local go_sem] max2_int min2_int max_two min_two max_three min_three max_four min_four   -- for this text's walks alone
set_option linter.unusedVariables false
set_option linter.unusedSimpArgs false

/-! ### impl_IsFamily: function 58 -/
mutual
def impl_IsFamily.l0 : Nat → List (S41) → List (S41) → Int → Int → Option (Bool)
 | 0, _, _, _, _ => none
 | k + 1, x0, x11, x12, x13 => if x13 < x12 then (if 0 ≤ x13 then (if x13 < (x11.length : Int) then ((impl_between.f ((rd_T41 x11 x13).f0) 0 3000).bind fun t216 => (if t216 = true then ((impl_between.f ((rd_T41 x11 x13).f1) (-1) (wrap64 (x13 - 1))).bind fun t217 => (if t217 = true then ((impl_between.f ((rd_T41 x11 x13).f2) (-1) (wrap64 (x13 - 1))).bind fun t218 => (if t218 = true then (if ((rd_T41 x11 x13).f2) ≥ 0 then (if ((rd_T41 x11 x13).f2) ≤ ((rd_T41 x11 x13).f1) then (impl_IsFamily.j1 k x0 x11 x12 x13 true ((rd_T41 x11 x13).f0) ((rd_T41 x11 x13).f1) ((rd_T41 x11 x13).f2)) else (if ((rd_T41 x11 x13).f1) < 0 then (impl_IsFamily.j1 k x0 x11 x12 x13 (decide (((rd_T41 x11 x13).f2) ≥ 0)) ((rd_T41 x11 x13).f0) ((rd_T41 x11 x13).f1) ((rd_T41 x11 x13).f2)) else (impl_IsFamily.j1 k x0 x11 x12 x13 false ((rd_T41 x11 x13).f0) ((rd_T41 x11 x13).f1) ((rd_T41 x11 x13).f2)))) else (if ((rd_T41 x11 x13).f1) < 0 then (impl_IsFamily.j1 k x0 x11 x12 x13 (decide (((rd_T41 x11 x13).f2) ≥ 0)) ((rd_T41 x11 x13).f0) ((rd_T41 x11 x13).f1) ((rd_T41 x11 x13).f2)) else (impl_IsFamily.j1 k x0 x11 x12 x13 false ((rd_T41 x11 x13).f0) ((rd_T41 x11 x13).f1) ((rd_T41 x11 x13).f2)))) else (impl_IsFamily.j1 k x0 x11 x12 x13 true ((rd_T41 x11 x13).f0) ((rd_T41 x11 x13).f1) ((rd_T41 x11 x13).f2)))) else (impl_IsFamily.j1 k x0 x11 x12 x13 true ((rd_T41 x11 x13).f0) ((rd_T41 x11 x13).f1) ((rd_T41 x11 x13).f2)))) else (impl_IsFamily.j1 k x0 x11 x12 x13 true ((rd_T41 x11 x13).f0) ((rd_T41 x11 x13).f1) ((rd_T41 x11 x13).f2)))) else (none)) else (none)) else (some true)
def impl_IsFamily.j1 : Nat → List (S41) → List (S41) → Int → Int → Bool → Int → Int → Int → Option (Bool)
 | 0, _, _, _, _, _, _, _, _ => none
 | k + 1, x0, x11, x12, x13, x59, x216000, x216001, x216002 => if x59 = true then (some false) else ((impl_Kin_parents.f x216000 x216001 x216002).bind fun t219 => (impl_IsFamily.l1 k x0 x11 x12 x13 t219 (t219.length : Int) 0 x216000 x216001 x216002))
def impl_IsFamily.l1 : Nat → List (S41) → List (S41) → Int → Int → List Int → Int → Int → Int → Int → Int → Option (Bool)
 | 0, _, _, _, _, _, _, _, _, _, _ => none
 | k + 1, x0, x11, x12, x13, x61, x62, x63, x216000, x216001, x216002 => if x63 < x62 then (if 0 ≤ x63 then (if x63 < (x61.length : Int) then (if 0 ≤ (rd x61 x63) then (if (rd x61 x63) < (x0.length : Int) then (if (wrap64 (((rd_T41 x0 (rd x61 x63)).f0) + 14)) > x216000 then (some false) else (impl_IsFamily.l1 k x0 x11 x12 x13 x61 x62 (wrap64 (x63 + 1)) x216000 x216001 x216002)) else (none)) else (none)) else (none)) else (none)) else (impl_IsFamily.l0 k x0 x11 x12 (wrap64 (x13 + 1)))
end
def impl_IsFamily.f (k : Nat) (l0 : List (S41)) : Option (Bool) := (impl_between.f (l0.length : Int) 1 14).bind fun t213 => (if t213 = true then (impl_IsFamily.l0 k l0 l0 (l0.length : Int) 0) else (some false))
set_option maxHeartbeats 8000000 in
set_option maxRecDepth 100000 in
theorem impl_IsFamily.calls (k : Nat) (A0 : Option Addr) (c0 : Nat) (l0 : List (S41)) (r : Bool) (w : World) (hr0 : Kd.C k41 w A0 l0.length l0) (hc0 : l0.length ≤ c0) (h : impl_IsFamily.f k l0 = some r) :
  Calls Tryz.prog 58 #[.slice A0 l0.length c0] w fun e w' => e = .returned (.bool r) ∧ Below w.heap.size w w' := by
 have hu41 := Tryz.underlying41
 have HR0 := Aside0.mk hr0
 have HC0 := Aside0.mk hc0
 clear hr0 hc0
 have HB := Aside0.mk (Below.refl w.heap.size w)
 have H : ((impl_between.f (l0.length : Int) 1 14).bind fun t213 => (if t213 = true then (impl_IsFamily.l0 k l0 l0 (l0.length : Int) 0) else (some false))) = some r := h
 clear h
 replace H := Option.bind_eq_some_iff.mp H
 obtain ⟨t213, A20, H⟩ := H
 have A2 := Aside0.mk A20
 clear A20
 by_cases c3 : t213 = true
 ·subst c3
  rw [if_pos rfl] at H
  have H' := Aside0.mk H
  clear H
  go_enter Tryz.func58, Tryz.ntmps58
  go_wp2_with (first | (go_at_call 79; (with_reducible refine (impl_between.calls (l0.length : Int) 1 14 true _ A2.out).mono ?_); rintro e w' ⟨rfl, ⟨nd, rfl⟩⟩; (try first | exact ⟨rfl, _, World.drewN_drewN _ _ _⟩ | exact ⟨rfl, _, Eq.trans (World.drewN_drewN _ _ _) (congrArg (World.drewN _) (Nat.add_assoc _ _ _))⟩)))
  repeat (go_quiet (first | (go_at_call 79; (with_reducible refine (impl_between.calls (l0.length : Int) 1 14 true _ A2.out).mono ?_); rintro e w' ⟨rfl, ⟨nd, rfl⟩⟩; (try first | exact ⟨rfl, _, World.drewN_drewN _ _ _⟩ | exact ⟨rfl, _, Eq.trans (World.drewN_drewN _ _ _) (congrArg (World.drewN _) (Nat.add_assoc _ _ _))⟩))); try go_wp2_with (first | (go_at_call 79; (with_reducible refine (impl_between.calls (l0.length : Int) 1 14 true _ A2.out).mono ?_); rintro e w' ⟨rfl, ⟨nd, rfl⟩⟩; (try first | exact ⟨rfl, _, World.drewN_drewN _ _ _⟩ | exact ⟨rfl, _, Eq.trans (World.drewN_drewN _ _ _) (congrArg (World.drewN _) (Nat.add_assoc _ _ _))⟩))))
  go_loopg [13] k (fun kq v13 w' => ∃ (x13_1 : Int), v13 = .int .i64 x13_1 ∧ Aside0 (impl_IsFamily.l0 kq l0 l0 (l0.length : Int) x13_1 = some r) ∧ Aside0 (kq ≤ k) ∧ Aside0 (Below w.heap.size w w'))
  case atStart => exact ⟨(0), kY, H', ⟨Nat.le_refl _⟩, kI⟩
  case round =>
   clear H'
   try clear c3
   obtain ⟨x13_1, rfl, HA, HK1, HB⟩ := hrel
   cases gk with
   | zero => exact absurd HA.out (by simp [impl_IsFamily.l0])
   | succ k1 =>
    have H := HA.out
    clear HA
    simp only [impl_IsFamily.l0] at H
    by_cases c4 : x13_1 < (l0.length : Int)
    ·rw [if_pos c4] at H
     have c4b0 : decide (x13_1 < (l0.length : Int)) = true := decide_eq_true c4
     clear c4
     by_cases c5 : 0 ≤ x13_1
     ·rw [if_pos c5] at H
      have c5b0 : decide (0 ≤ x13_1) = true := decide_eq_true c5
      clear c5
      by_cases c6 : x13_1 < (l0.length : Int)
      ·rw [if_pos c6] at H
       have c6b0 : decide (x13_1 < (l0.length : Int)) = true := decide_eq_true c6
       clear c6
       have HC7 := Aside0.mk H
       clear H
       have p214 : 0 ≤ (x13_1 : Int) := of_decide_eq_true (by first | (with_reducible assumption) | assumption)
       have q214 : x13_1 < (l0.length : Int) := of_decide_eq_true (by first | (with_reducible assumption) | assumption)
       obtain ⟨ad214, e214, hx214_0, hx214_1, hx214_2⟩ := at_T41 HR0.out x13_1 p214 q214
       cases e214
       replace hx214_0 := (HB.out.cell (World.block_lt_of_cell? w _ hx214_0)).trans hx214_0
       replace hx214_1 := (HB.out.cell (World.block_lt_of_cell? w _ hx214_1)).trans hx214_1
       replace hx214_2 := (HB.out.cell (World.block_lt_of_cell? w _ hx214_2)).trans hx214_2
       replace p214 := eq_true p214
       replace q214 := eq_true q214
       go_upto_region 6 with (first | ((with_reducible refine gate_dst (N := 4) rfl ?_); refine box_event ?hg (N := 4) ?hd (cs := #[.int .i64 0, .int .i64 0, .int .i64 0]) (t := 41) ?hr ?_; (case hd => rfl); (case hg => rfl); (case hr => first | (go_simp; done) | (go_simp; rfl)); intro gb215 hg w8 hbox hb; have n0_ := kH HB hb; have n1_ := Aside0.mk (hbox); have n2_ := kG HB hg; have n3_ := kG HB hg; replace HB := n0_; have BK215 := n1_; have GW215 := n2_; have GE215 := n3_; clear n0_ n1_ n2_ n3_; clear hb hbox hg; have hcz9_0 : w8.cell? ⟨gb215, 0, none⟩ = some (.int .i64 0) := (blk_cell BK215.out 0).trans rfl; have hcz9_1 : w8.cell? ⟨gb215, 1, none⟩ = some (.int .i64 0) := (blk_cell BK215.out 1).trans rfl; have hcz9_2 : w8.cell? ⟨gb215, 2, none⟩ = some (.int .i64 0) := (blk_cell BK215.out 2).trans rfl; have hfz9_0 := blk_frozen BK215.out 0; have hfz9_1 := blk_frozen BK215.out 1; have hfz9_2 := blk_frozen BK215.out 2))
       repeat (go_quiet (first | ((with_reducible refine gate_dst (N := 4) rfl ?_); refine box_event ?hg (N := 4) ?hd (cs := #[.int .i64 0, .int .i64 0, .int .i64 0]) (t := 41) ?hr ?_; (case hd => rfl); (case hg => rfl); (case hr => first | (go_simp; done) | (go_simp; rfl)); intro gb215 hg w8 hbox hb; have n0_ := kH HB hb; have n1_ := Aside0.mk (hbox); have n2_ := kG HB hg; have n3_ := kG HB hg; replace HB := n0_; have BK215 := n1_; have GW215 := n2_; have GE215 := n3_; clear n0_ n1_ n2_ n3_; clear hb hbox hg; have hcz9_0 : w8.cell? ⟨gb215, 0, none⟩ = some (.int .i64 0) := (blk_cell BK215.out 0).trans rfl; have hcz9_1 : w8.cell? ⟨gb215, 1, none⟩ = some (.int .i64 0) := (blk_cell BK215.out 1).trans rfl; have hcz9_2 : w8.cell? ⟨gb215, 2, none⟩ = some (.int .i64 0) := (blk_cell BK215.out 2).trans rfl; have hfz9_0 := blk_frozen BK215.out 0; have hfz9_1 := blk_frozen BK215.out 1; have hfz9_2 := blk_frozen BK215.out 2)); go_upto_region 6 with (first | ((with_reducible refine gate_dst (N := 4) rfl ?_); refine box_event ?hg (N := 4) ?hd (cs := #[.int .i64 0, .int .i64 0, .int .i64 0]) (t := 41) ?hr ?_; (case hd => rfl); (case hg => rfl); (case hr => first | (go_simp; done) | (go_simp; rfl)); intro gb215 hg w8 hbox hb; have n0_ := kH HB hb; have n1_ := Aside0.mk (hbox); have n2_ := kG HB hg; have n3_ := kG HB hg; replace HB := n0_; have BK215 := n1_; have GW215 := n2_; have GE215 := n3_; clear n0_ n1_ n2_ n3_; clear hb hbox hg; have hcz9_0 : w8.cell? ⟨gb215, 0, none⟩ = some (.int .i64 0) := (blk_cell BK215.out 0).trans rfl; have hcz9_1 : w8.cell? ⟨gb215, 1, none⟩ = some (.int .i64 0) := (blk_cell BK215.out 1).trans rfl; have hcz9_2 : w8.cell? ⟨gb215, 2, none⟩ = some (.int .i64 0) := (blk_cell BK215.out 2).trans rfl; have hfz9_0 := blk_frozen BK215.out 0; have hfz9_1 := blk_frozen BK215.out 1; have hfz9_2 := blk_frozen BK215.out 2)))
       (try simp only [Act.put, List.setIfInBounds_toArray, List.set_cons_zero, List.set_cons_succ])
       go_cut [59] from 1 to 0 (fun v59 wc => ∃ (kq : Nat) (x59_6 : Bool), v59 = .bool x59_6 ∧ Aside0 (impl_IsFamily.j1 kq l0 l0 (l0.length : Int) x13_1 x59_6 ((rd_T41 l0 x13_1).f0) ((rd_T41 l0 x13_1).f1) ((rd_T41 l0 x13_1).f2) = some r) ∧ Aside0 (kq ≤ k1) ∧ Aside0 (wc.heap[gb215]? = some (.cells #[.int .i64 ((rd_T41 l0 x13_1).f0), .int .i64 ((rd_T41 l0 x13_1).f1), .int .i64 ((rd_T41 l0 x13_1).f2)] 41 (0, 0))) ∧ Aside0 (Below w.heap.size w wc))
       case first =>
        have H := HC7.out
        clear HC7
        replace H := Option.bind_eq_some_iff.mp H
        obtain ⟨t216, A100, H⟩ := H
        have A10 := Aside0.mk A100
        clear A100
        by_cases c11 : t216 = true
        ·subst c11
         rw [if_pos rfl] at H
         replace H := Option.bind_eq_some_iff.mp H
         obtain ⟨t217, A120, H⟩ := H
         have A12 := Aside0.mk A120
         clear A120
         by_cases c13 : t217 = true
         ·subst c13
          rw [if_pos rfl] at H
          replace H := Option.bind_eq_some_iff.mp H
          obtain ⟨t218, A140, H⟩ := H
          have A14 := Aside0.mk A140
          clear A140
          by_cases c15 : t218 = true
          ·subst c15
           rw [if_pos rfl] at H
           by_cases c16 : ((rd_T41 l0 x13_1).f2) ≥ 0
           ·rw [if_pos c16] at H
            have c16b0 : decide (0 ≤ ((rd_T41 l0 x13_1).f2)) = true := decide_eq_true c16
            clear c16
            (first | rw [c16b0] | (simp only [i64_w, i32_w]; rw [c16b0]) | skip)
            by_cases c17 : ((rd_T41 l0 x13_1).f2) ≤ ((rd_T41 l0 x13_1).f1)
            ·rw [if_pos c17] at H
             have c17b0 : decide (((rd_T41 l0 x13_1).f2) ≤ ((rd_T41 l0 x13_1).f1)) = true := decide_eq_true c17
             clear c17
             have H' := Aside0.mk H
             clear H
             have hcz18_0 : w8.cell? ⟨gb215, 0, none⟩ = some (.int .i64 0) := (blk_cell BK215.out 0).trans rfl
             have hcz18_1 : w8.cell? ⟨gb215, 1, none⟩ = some (.int .i64 0) := (blk_cell BK215.out 1).trans rfl
             have hcz18_2 : w8.cell? ⟨gb215, 2, none⟩ = some (.int .i64 0) := (blk_cell BK215.out 2).trans rfl
             have hfz18_0 := blk_frozen BK215.out 0
             have hfz18_1 := blk_frozen BK215.out 1
             have hfz18_2 := blk_frozen BK215.out 2
             go_wp2_with (first | (go_at_call 79; (with_reducible refine (impl_between.calls ((rd_T41 l0 x13_1).f0) 0 3000 true _ A10.out).mono ?_); rintro e w' ⟨rfl, ⟨nd, rfl⟩⟩; (try first | exact ⟨rfl, _, World.drewN_drewN _ _ _⟩ | exact ⟨rfl, _, Eq.trans (World.drewN_drewN _ _ _) (congrArg (World.drewN _) (Nat.add_assoc _ _ _))⟩)) | (go_at_call 79; (with_reducible refine (impl_between.calls ((rd_T41 l0 x13_1).f1) (-1) (wrap64 (x13_1 - 1)) true _ A12.out).mono ?_); rintro e w' ⟨rfl, ⟨nd, rfl⟩⟩; (try first | exact ⟨rfl, _, World.drewN_drewN _ _ _⟩ | exact ⟨rfl, _, Eq.trans (World.drewN_drewN _ _ _) (congrArg (World.drewN _) (Nat.add_assoc _ _ _))⟩)) | (go_at_call 79; (with_reducible refine (impl_between.calls ((rd_T41 l0 x13_1).f2) (-1) (wrap64 (x13_1 - 1)) true _ A14.out).mono ?_); rintro e w' ⟨rfl, ⟨nd, rfl⟩⟩; (try first | exact ⟨rfl, _, World.drewN_drewN _ _ _⟩ | exact ⟨rfl, _, Eq.trans (World.drewN_drewN _ _ _) (congrArg (World.drewN _) (Nat.add_assoc _ _ _))⟩)))
             repeat (go_quiet (first | (go_at_call 79; (with_reducible refine (impl_between.calls ((rd_T41 l0 x13_1).f0) 0 3000 true _ A10.out).mono ?_); rintro e w' ⟨rfl, ⟨nd, rfl⟩⟩; (try first | exact ⟨rfl, _, World.drewN_drewN _ _ _⟩ | exact ⟨rfl, _, Eq.trans (World.drewN_drewN _ _ _) (congrArg (World.drewN _) (Nat.add_assoc _ _ _))⟩)) | (go_at_call 79; (with_reducible refine (impl_between.calls ((rd_T41 l0 x13_1).f1) (-1) (wrap64 (x13_1 - 1)) true _ A12.out).mono ?_); rintro e w' ⟨rfl, ⟨nd, rfl⟩⟩; (try first | exact ⟨rfl, _, World.drewN_drewN _ _ _⟩ | exact ⟨rfl, _, Eq.trans (World.drewN_drewN _ _ _) (congrArg (World.drewN _) (Nat.add_assoc _ _ _))⟩)) | (go_at_call 79; (with_reducible refine (impl_between.calls ((rd_T41 l0 x13_1).f2) (-1) (wrap64 (x13_1 - 1)) true _ A14.out).mono ?_); rintro e w' ⟨rfl, ⟨nd, rfl⟩⟩; (try first | exact ⟨rfl, _, World.drewN_drewN _ _ _⟩ | exact ⟨rfl, _, Eq.trans (World.drewN_drewN _ _ _) (congrArg (World.drewN _) (Nat.add_assoc _ _ _))⟩))); try go_wp2_with (first | (go_at_call 79; (with_reducible refine (impl_between.calls ((rd_T41 l0 x13_1).f0) 0 3000 true _ A10.out).mono ?_); rintro e w' ⟨rfl, ⟨nd, rfl⟩⟩; (try first | exact ⟨rfl, _, World.drewN_drewN _ _ _⟩ | exact ⟨rfl, _, Eq.trans (World.drewN_drewN _ _ _) (congrArg (World.drewN _) (Nat.add_assoc _ _ _))⟩)) | (go_at_call 79; (with_reducible refine (impl_between.calls ((rd_T41 l0 x13_1).f1) (-1) (wrap64 (x13_1 - 1)) true _ A12.out).mono ?_); rintro e w' ⟨rfl, ⟨nd, rfl⟩⟩; (try first | exact ⟨rfl, _, World.drewN_drewN _ _ _⟩ | exact ⟨rfl, _, Eq.trans (World.drewN_drewN _ _ _) (congrArg (World.drewN _) (Nat.add_assoc _ _ _))⟩)) | (go_at_call 79; (with_reducible refine (impl_between.calls ((rd_T41 l0 x13_1).f2) (-1) (wrap64 (x13_1 - 1)) true _ A14.out).mono ?_); rintro e w' ⟨rfl, ⟨nd, rfl⟩⟩; (try first | exact ⟨rfl, _, World.drewN_drewN _ _ _⟩ | exact ⟨rfl, _, Eq.trans (World.drewN_drewN _ _ _) (congrArg (World.drewN _) (Nat.add_assoc _ _ _))⟩))))
             go_meet
             case rel => exact ⟨_, (true), kY, H', ⟨by have := HK1.out; first | omega | exact Nat.le_refl _⟩, ⟨by (with_reducible repeat (first | refine blk_drewN ?_ _ | refine blk_drew ?_ | refine blk_alloc ?_ _)); refine blk_put (cs := #[.int .i64 ((rd_T41 l0 x13_1).f0), .int .i64 ((rd_T41 l0 x13_1).f1), .int .i64 0]) ?_ 2 _ rfl; (with_reducible repeat (first | refine blk_drewN ?_ _ | refine blk_drew ?_ | refine blk_alloc ?_ _)); refine blk_put (cs := #[.int .i64 ((rd_T41 l0 x13_1).f0), .int .i64 0, .int .i64 0]) ?_ 1 _ rfl; (with_reducible repeat (first | refine blk_drewN ?_ _ | refine blk_drew ?_ | refine blk_alloc ?_ _)); refine blk_put (cs := #[.int .i64 0, .int .i64 0, .int .i64 0]) ?_ 0 _ rfl; (with_reducible repeat (first | refine blk_drewN ?_ _ | refine blk_drew ?_ | refine blk_alloc ?_ _)); exact BK215.out⟩, kI⟩
            ·rw [if_neg c17] at H
             have c17b0 : decide (((rd_T41 l0 x13_1).f2) ≤ ((rd_T41 l0 x13_1).f1)) = false := decide_eq_false c17
             clear c17
             by_cases c19 : ((rd_T41 l0 x13_1).f1) < 0
             ·rw [if_pos c19] at H
              have c19b0 : decide (((rd_T41 l0 x13_1).f1) < 0) = true := decide_eq_true c19
              clear c19
              have H' := Aside0.mk H
              clear H
              have hcz20_0 : w8.cell? ⟨gb215, 0, none⟩ = some (.int .i64 0) := (blk_cell BK215.out 0).trans rfl
              have hcz20_1 : w8.cell? ⟨gb215, 1, none⟩ = some (.int .i64 0) := (blk_cell BK215.out 1).trans rfl
              have hcz20_2 : w8.cell? ⟨gb215, 2, none⟩ = some (.int .i64 0) := (blk_cell BK215.out 2).trans rfl
              have hfz20_0 := blk_frozen BK215.out 0
              have hfz20_1 := blk_frozen BK215.out 1
              have hfz20_2 := blk_frozen BK215.out 2
              go_wp2_with (first | (go_at_call 79; (with_reducible refine (impl_between.calls ((rd_T41 l0 x13_1).f0) 0 3000 true _ A10.out).mono ?_); rintro e w' ⟨rfl, ⟨nd, rfl⟩⟩; (try first | exact ⟨rfl, _, World.drewN_drewN _ _ _⟩ | exact ⟨rfl, _, Eq.trans (World.drewN_drewN _ _ _) (congrArg (World.drewN _) (Nat.add_assoc _ _ _))⟩)) | (go_at_call 79; (with_reducible refine (impl_between.calls ((rd_T41 l0 x13_1).f1) (-1) (wrap64 (x13_1 - 1)) true _ A12.out).mono ?_); rintro e w' ⟨rfl, ⟨nd, rfl⟩⟩; (try first | exact ⟨rfl, _, World.drewN_drewN _ _ _⟩ | exact ⟨rfl, _, Eq.trans (World.drewN_drewN _ _ _) (congrArg (World.drewN _) (Nat.add_assoc _ _ _))⟩)) | (go_at_call 79; (with_reducible refine (impl_between.calls ((rd_T41 l0 x13_1).f2) (-1) (wrap64 (x13_1 - 1)) true _ A14.out).mono ?_); rintro e w' ⟨rfl, ⟨nd, rfl⟩⟩; (try first | exact ⟨rfl, _, World.drewN_drewN _ _ _⟩ | exact ⟨rfl, _, Eq.trans (World.drewN_drewN _ _ _) (congrArg (World.drewN _) (Nat.add_assoc _ _ _))⟩)))
              repeat (go_quiet (first | (go_at_call 79; (with_reducible refine (impl_between.calls ((rd_T41 l0 x13_1).f0) 0 3000 true _ A10.out).mono ?_); rintro e w' ⟨rfl, ⟨nd, rfl⟩⟩; (try first | exact ⟨rfl, _, World.drewN_drewN _ _ _⟩ | exact ⟨rfl, _, Eq.trans (World.drewN_drewN _ _ _) (congrArg (World.drewN _) (Nat.add_assoc _ _ _))⟩)) | (go_at_call 79; (with_reducible refine (impl_between.calls ((rd_T41 l0 x13_1).f1) (-1) (wrap64 (x13_1 - 1)) true _ A12.out).mono ?_); rintro e w' ⟨rfl, ⟨nd, rfl⟩⟩; (try first | exact ⟨rfl, _, World.drewN_drewN _ _ _⟩ | exact ⟨rfl, _, Eq.trans (World.drewN_drewN _ _ _) (congrArg (World.drewN _) (Nat.add_assoc _ _ _))⟩)) | (go_at_call 79; (with_reducible refine (impl_between.calls ((rd_T41 l0 x13_1).f2) (-1) (wrap64 (x13_1 - 1)) true _ A14.out).mono ?_); rintro e w' ⟨rfl, ⟨nd, rfl⟩⟩; (try first | exact ⟨rfl, _, World.drewN_drewN _ _ _⟩ | exact ⟨rfl, _, Eq.trans (World.drewN_drewN _ _ _) (congrArg (World.drewN _) (Nat.add_assoc _ _ _))⟩))); try go_wp2_with (first | (go_at_call 79; (with_reducible refine (impl_between.calls ((rd_T41 l0 x13_1).f0) 0 3000 true _ A10.out).mono ?_); rintro e w' ⟨rfl, ⟨nd, rfl⟩⟩; (try first | exact ⟨rfl, _, World.drewN_drewN _ _ _⟩ | exact ⟨rfl, _, Eq.trans (World.drewN_drewN _ _ _) (congrArg (World.drewN _) (Nat.add_assoc _ _ _))⟩)) | (go_at_call 79; (with_reducible refine (impl_between.calls ((rd_T41 l0 x13_1).f1) (-1) (wrap64 (x13_1 - 1)) true _ A12.out).mono ?_); rintro e w' ⟨rfl, ⟨nd, rfl⟩⟩; (try first | exact ⟨rfl, _, World.drewN_drewN _ _ _⟩ | exact ⟨rfl, _, Eq.trans (World.drewN_drewN _ _ _) (congrArg (World.drewN _) (Nat.add_assoc _ _ _))⟩)) | (go_at_call 79; (with_reducible refine (impl_between.calls ((rd_T41 l0 x13_1).f2) (-1) (wrap64 (x13_1 - 1)) true _ A14.out).mono ?_); rintro e w' ⟨rfl, ⟨nd, rfl⟩⟩; (try first | exact ⟨rfl, _, World.drewN_drewN _ _ _⟩ | exact ⟨rfl, _, Eq.trans (World.drewN_drewN _ _ _) (congrArg (World.drewN _) (Nat.add_assoc _ _ _))⟩))))
              go_meet
              case rel => exact ⟨_, (decide (((rd_T41 l0 x13_1).f2) ≥ 0)), kY, H', ⟨by have := HK1.out; first | omega | exact Nat.le_refl _⟩, ⟨by (with_reducible repeat (first | refine blk_drewN ?_ _ | refine blk_drew ?_ | refine blk_alloc ?_ _)); refine blk_put (cs := #[.int .i64 ((rd_T41 l0 x13_1).f0), .int .i64 ((rd_T41 l0 x13_1).f1), .int .i64 0]) ?_ 2 _ rfl; (with_reducible repeat (first | refine blk_drewN ?_ _ | refine blk_drew ?_ | refine blk_alloc ?_ _)); refine blk_put (cs := #[.int .i64 ((rd_T41 l0 x13_1).f0), .int .i64 0, .int .i64 0]) ?_ 1 _ rfl; (with_reducible repeat (first | refine blk_drewN ?_ _ | refine blk_drew ?_ | refine blk_alloc ?_ _)); refine blk_put (cs := #[.int .i64 0, .int .i64 0, .int .i64 0]) ?_ 0 _ rfl; (with_reducible repeat (first | refine blk_drewN ?_ _ | refine blk_drew ?_ | refine blk_alloc ?_ _)); exact BK215.out⟩, kI⟩
             ·rw [if_neg c19] at H
              have c19b0 : decide (((rd_T41 l0 x13_1).f1) < 0) = false := decide_eq_false c19
              clear c19
              have H' := Aside0.mk H
              clear H
              have hcz21_0 : w8.cell? ⟨gb215, 0, none⟩ = some (.int .i64 0) := (blk_cell BK215.out 0).trans rfl
              have hcz21_1 : w8.cell? ⟨gb215, 1, none⟩ = some (.int .i64 0) := (blk_cell BK215.out 1).trans rfl
              have hcz21_2 : w8.cell? ⟨gb215, 2, none⟩ = some (.int .i64 0) := (blk_cell BK215.out 2).trans rfl
              have hfz21_0 := blk_frozen BK215.out 0
              have hfz21_1 := blk_frozen BK215.out 1
              have hfz21_2 := blk_frozen BK215.out 2
              go_wp2_with (first | (go_at_call 79; (with_reducible refine (impl_between.calls ((rd_T41 l0 x13_1).f0) 0 3000 true _ A10.out).mono ?_); rintro e w' ⟨rfl, ⟨nd, rfl⟩⟩; (try first | exact ⟨rfl, _, World.drewN_drewN _ _ _⟩ | exact ⟨rfl, _, Eq.trans (World.drewN_drewN _ _ _) (congrArg (World.drewN _) (Nat.add_assoc _ _ _))⟩)) | (go_at_call 79; (with_reducible refine (impl_between.calls ((rd_T41 l0 x13_1).f1) (-1) (wrap64 (x13_1 - 1)) true _ A12.out).mono ?_); rintro e w' ⟨rfl, ⟨nd, rfl⟩⟩; (try first | exact ⟨rfl, _, World.drewN_drewN _ _ _⟩ | exact ⟨rfl, _, Eq.trans (World.drewN_drewN _ _ _) (congrArg (World.drewN _) (Nat.add_assoc _ _ _))⟩)) | (go_at_call 79; (with_reducible refine (impl_between.calls ((rd_T41 l0 x13_1).f2) (-1) (wrap64 (x13_1 - 1)) true _ A14.out).mono ?_); rintro e w' ⟨rfl, ⟨nd, rfl⟩⟩; (try first | exact ⟨rfl, _, World.drewN_drewN _ _ _⟩ | exact ⟨rfl, _, Eq.trans (World.drewN_drewN _ _ _) (congrArg (World.drewN _) (Nat.add_assoc _ _ _))⟩)))
              repeat (go_quiet (first | (go_at_call 79; (with_reducible refine (impl_between.calls ((rd_T41 l0 x13_1).f0) 0 3000 true _ A10.out).mono ?_); rintro e w' ⟨rfl, ⟨nd, rfl⟩⟩; (try first | exact ⟨rfl, _, World.drewN_drewN _ _ _⟩ | exact ⟨rfl, _, Eq.trans (World.drewN_drewN _ _ _) (congrArg (World.drewN _) (Nat.add_assoc _ _ _))⟩)) | (go_at_call 79; (with_reducible refine (impl_between.calls ((rd_T41 l0 x13_1).f1) (-1) (wrap64 (x13_1 - 1)) true _ A12.out).mono ?_); rintro e w' ⟨rfl, ⟨nd, rfl⟩⟩; (try first | exact ⟨rfl, _, World.drewN_drewN _ _ _⟩ | exact ⟨rfl, _, Eq.trans (World.drewN_drewN _ _ _) (congrArg (World.drewN _) (Nat.add_assoc _ _ _))⟩)) | (go_at_call 79; (with_reducible refine (impl_between.calls ((rd_T41 l0 x13_1).f2) (-1) (wrap64 (x13_1 - 1)) true _ A14.out).mono ?_); rintro e w' ⟨rfl, ⟨nd, rfl⟩⟩; (try first | exact ⟨rfl, _, World.drewN_drewN _ _ _⟩ | exact ⟨rfl, _, Eq.trans (World.drewN_drewN _ _ _) (congrArg (World.drewN _) (Nat.add_assoc _ _ _))⟩))); try go_wp2_with (first | (go_at_call 79; (with_reducible refine (impl_between.calls ((rd_T41 l0 x13_1).f0) 0 3000 true _ A10.out).mono ?_); rintro e w' ⟨rfl, ⟨nd, rfl⟩⟩; (try first | exact ⟨rfl, _, World.drewN_drewN _ _ _⟩ | exact ⟨rfl, _, Eq.trans (World.drewN_drewN _ _ _) (congrArg (World.drewN _) (Nat.add_assoc _ _ _))⟩)) | (go_at_call 79; (with_reducible refine (impl_between.calls ((rd_T41 l0 x13_1).f1) (-1) (wrap64 (x13_1 - 1)) true _ A12.out).mono ?_); rintro e w' ⟨rfl, ⟨nd, rfl⟩⟩; (try first | exact ⟨rfl, _, World.drewN_drewN _ _ _⟩ | exact ⟨rfl, _, Eq.trans (World.drewN_drewN _ _ _) (congrArg (World.drewN _) (Nat.add_assoc _ _ _))⟩)) | (go_at_call 79; (with_reducible refine (impl_between.calls ((rd_T41 l0 x13_1).f2) (-1) (wrap64 (x13_1 - 1)) true _ A14.out).mono ?_); rintro e w' ⟨rfl, ⟨nd, rfl⟩⟩; (try first | exact ⟨rfl, _, World.drewN_drewN _ _ _⟩ | exact ⟨rfl, _, Eq.trans (World.drewN_drewN _ _ _) (congrArg (World.drewN _) (Nat.add_assoc _ _ _))⟩))))
              go_meet
              case rel => exact ⟨_, (false), kY, H', ⟨by have := HK1.out; first | omega | exact Nat.le_refl _⟩, ⟨by (with_reducible repeat (first | refine blk_drewN ?_ _ | refine blk_drew ?_ | refine blk_alloc ?_ _)); refine blk_put (cs := #[.int .i64 ((rd_T41 l0 x13_1).f0), .int .i64 ((rd_T41 l0 x13_1).f1), .int .i64 0]) ?_ 2 _ rfl; (with_reducible repeat (first | refine blk_drewN ?_ _ | refine blk_drew ?_ | refine blk_alloc ?_ _)); refine blk_put (cs := #[.int .i64 ((rd_T41 l0 x13_1).f0), .int .i64 0, .int .i64 0]) ?_ 1 _ rfl; (with_reducible repeat (first | refine blk_drewN ?_ _ | refine blk_drew ?_ | refine blk_alloc ?_ _)); refine blk_put (cs := #[.int .i64 0, .int .i64 0, .int .i64 0]) ?_ 0 _ rfl; (with_reducible repeat (first | refine blk_drewN ?_ _ | refine blk_drew ?_ | refine blk_alloc ?_ _)); exact BK215.out⟩, kI⟩
           ·rw [if_neg c16] at H
            have c16b0 : decide (0 ≤ ((rd_T41 l0 x13_1).f2)) = false := decide_eq_false c16
            clear c16
            (first | rw [c16b0] | (simp only [i64_w, i32_w]; rw [c16b0]) | skip)
            by_cases c22 : ((rd_T41 l0 x13_1).f1) < 0
            ·rw [if_pos c22] at H
             have c22b0 : decide (((rd_T41 l0 x13_1).f1) < 0) = true := decide_eq_true c22
             clear c22
             have H' := Aside0.mk H
             clear H
             have hcz23_0 : w8.cell? ⟨gb215, 0, none⟩ = some (.int .i64 0) := (blk_cell BK215.out 0).trans rfl
             have hcz23_1 : w8.cell? ⟨gb215, 1, none⟩ = some (.int .i64 0) := (blk_cell BK215.out 1).trans rfl
             have hcz23_2 : w8.cell? ⟨gb215, 2, none⟩ = some (.int .i64 0) := (blk_cell BK215.out 2).trans rfl
             have hfz23_0 := blk_frozen BK215.out 0
             have hfz23_1 := blk_frozen BK215.out 1
             have hfz23_2 := blk_frozen BK215.out 2
             go_wp2_with (first | (go_at_call 79; (with_reducible refine (impl_between.calls ((rd_T41 l0 x13_1).f0) 0 3000 true _ A10.out).mono ?_); rintro e w' ⟨rfl, ⟨nd, rfl⟩⟩; (try first | exact ⟨rfl, _, World.drewN_drewN _ _ _⟩ | exact ⟨rfl, _, Eq.trans (World.drewN_drewN _ _ _) (congrArg (World.drewN _) (Nat.add_assoc _ _ _))⟩)) | (go_at_call 79; (with_reducible refine (impl_between.calls ((rd_T41 l0 x13_1).f1) (-1) (wrap64 (x13_1 - 1)) true _ A12.out).mono ?_); rintro e w' ⟨rfl, ⟨nd, rfl⟩⟩; (try first | exact ⟨rfl, _, World.drewN_drewN _ _ _⟩ | exact ⟨rfl, _, Eq.trans (World.drewN_drewN _ _ _) (congrArg (World.drewN _) (Nat.add_assoc _ _ _))⟩)) | (go_at_call 79; (with_reducible refine (impl_between.calls ((rd_T41 l0 x13_1).f2) (-1) (wrap64 (x13_1 - 1)) true _ A14.out).mono ?_); rintro e w' ⟨rfl, ⟨nd, rfl⟩⟩; (try first | exact ⟨rfl, _, World.drewN_drewN _ _ _⟩ | exact ⟨rfl, _, Eq.trans (World.drewN_drewN _ _ _) (congrArg (World.drewN _) (Nat.add_assoc _ _ _))⟩)))
             repeat (go_quiet (first | (go_at_call 79; (with_reducible refine (impl_between.calls ((rd_T41 l0 x13_1).f0) 0 3000 true _ A10.out).mono ?_); rintro e w' ⟨rfl, ⟨nd, rfl⟩⟩; (try first | exact ⟨rfl, _, World.drewN_drewN _ _ _⟩ | exact ⟨rfl, _, Eq.trans (World.drewN_drewN _ _ _) (congrArg (World.drewN _) (Nat.add_assoc _ _ _))⟩)) | (go_at_call 79; (with_reducible refine (impl_between.calls ((rd_T41 l0 x13_1).f1) (-1) (wrap64 (x13_1 - 1)) true _ A12.out).mono ?_); rintro e w' ⟨rfl, ⟨nd, rfl⟩⟩; (try first | exact ⟨rfl, _, World.drewN_drewN _ _ _⟩ | exact ⟨rfl, _, Eq.trans (World.drewN_drewN _ _ _) (congrArg (World.drewN _) (Nat.add_assoc _ _ _))⟩)) | (go_at_call 79; (with_reducible refine (impl_between.calls ((rd_T41 l0 x13_1).f2) (-1) (wrap64 (x13_1 - 1)) true _ A14.out).mono ?_); rintro e w' ⟨rfl, ⟨nd, rfl⟩⟩; (try first | exact ⟨rfl, _, World.drewN_drewN _ _ _⟩ | exact ⟨rfl, _, Eq.trans (World.drewN_drewN _ _ _) (congrArg (World.drewN _) (Nat.add_assoc _ _ _))⟩))); try go_wp2_with (first | (go_at_call 79; (with_reducible refine (impl_between.calls ((rd_T41 l0 x13_1).f0) 0 3000 true _ A10.out).mono ?_); rintro e w' ⟨rfl, ⟨nd, rfl⟩⟩; (try first | exact ⟨rfl, _, World.drewN_drewN _ _ _⟩ | exact ⟨rfl, _, Eq.trans (World.drewN_drewN _ _ _) (congrArg (World.drewN _) (Nat.add_assoc _ _ _))⟩)) | (go_at_call 79; (with_reducible refine (impl_between.calls ((rd_T41 l0 x13_1).f1) (-1) (wrap64 (x13_1 - 1)) true _ A12.out).mono ?_); rintro e w' ⟨rfl, ⟨nd, rfl⟩⟩; (try first | exact ⟨rfl, _, World.drewN_drewN _ _ _⟩ | exact ⟨rfl, _, Eq.trans (World.drewN_drewN _ _ _) (congrArg (World.drewN _) (Nat.add_assoc _ _ _))⟩)) | (go_at_call 79; (with_reducible refine (impl_between.calls ((rd_T41 l0 x13_1).f2) (-1) (wrap64 (x13_1 - 1)) true _ A14.out).mono ?_); rintro e w' ⟨rfl, ⟨nd, rfl⟩⟩; (try first | exact ⟨rfl, _, World.drewN_drewN _ _ _⟩ | exact ⟨rfl, _, Eq.trans (World.drewN_drewN _ _ _) (congrArg (World.drewN _) (Nat.add_assoc _ _ _))⟩))))
             go_meet
             case rel => exact ⟨_, (decide (((rd_T41 l0 x13_1).f2) ≥ 0)), kY, H', ⟨by have := HK1.out; first | omega | exact Nat.le_refl _⟩, ⟨by (with_reducible repeat (first | refine blk_drewN ?_ _ | refine blk_drew ?_ | refine blk_alloc ?_ _)); refine blk_put (cs := #[.int .i64 ((rd_T41 l0 x13_1).f0), .int .i64 ((rd_T41 l0 x13_1).f1), .int .i64 0]) ?_ 2 _ rfl; (with_reducible repeat (first | refine blk_drewN ?_ _ | refine blk_drew ?_ | refine blk_alloc ?_ _)); refine blk_put (cs := #[.int .i64 ((rd_T41 l0 x13_1).f0), .int .i64 0, .int .i64 0]) ?_ 1 _ rfl; (with_reducible repeat (first | refine blk_drewN ?_ _ | refine blk_drew ?_ | refine blk_alloc ?_ _)); refine blk_put (cs := #[.int .i64 0, .int .i64 0, .int .i64 0]) ?_ 0 _ rfl; (with_reducible repeat (first | refine blk_drewN ?_ _ | refine blk_drew ?_ | refine blk_alloc ?_ _)); exact BK215.out⟩, kI⟩
            ·rw [if_neg c22] at H
             have c22b0 : decide (((rd_T41 l0 x13_1).f1) < 0) = false := decide_eq_false c22
             clear c22
             have H' := Aside0.mk H
             clear H
             have hcz24_0 : w8.cell? ⟨gb215, 0, none⟩ = some (.int .i64 0) := (blk_cell BK215.out 0).trans rfl
             have hcz24_1 : w8.cell? ⟨gb215, 1, none⟩ = some (.int .i64 0) := (blk_cell BK215.out 1).trans rfl
             have hcz24_2 : w8.cell? ⟨gb215, 2, none⟩ = some (.int .i64 0) := (blk_cell BK215.out 2).trans rfl
             have hfz24_0 := blk_frozen BK215.out 0
             have hfz24_1 := blk_frozen BK215.out 1
             have hfz24_2 := blk_frozen BK215.out 2
             go_wp2_with (first | (go_at_call 79; (with_reducible refine (impl_between.calls ((rd_T41 l0 x13_1).f0) 0 3000 true _ A10.out).mono ?_); rintro e w' ⟨rfl, ⟨nd, rfl⟩⟩; (try first | exact ⟨rfl, _, World.drewN_drewN _ _ _⟩ | exact ⟨rfl, _, Eq.trans (World.drewN_drewN _ _ _) (congrArg (World.drewN _) (Nat.add_assoc _ _ _))⟩)) | (go_at_call 79; (with_reducible refine (impl_between.calls ((rd_T41 l0 x13_1).f1) (-1) (wrap64 (x13_1 - 1)) true _ A12.out).mono ?_); rintro e w' ⟨rfl, ⟨nd, rfl⟩⟩; (try first | exact ⟨rfl, _, World.drewN_drewN _ _ _⟩ | exact ⟨rfl, _, Eq.trans (World.drewN_drewN _ _ _) (congrArg (World.drewN _) (Nat.add_assoc _ _ _))⟩)) | (go_at_call 79; (with_reducible refine (impl_between.calls ((rd_T41 l0 x13_1).f2) (-1) (wrap64 (x13_1 - 1)) true _ A14.out).mono ?_); rintro e w' ⟨rfl, ⟨nd, rfl⟩⟩; (try first | exact ⟨rfl, _, World.drewN_drewN _ _ _⟩ | exact ⟨rfl, _, Eq.trans (World.drewN_drewN _ _ _) (congrArg (World.drewN _) (Nat.add_assoc _ _ _))⟩)))
             repeat (go_quiet (first | (go_at_call 79; (with_reducible refine (impl_between.calls ((rd_T41 l0 x13_1).f0) 0 3000 true _ A10.out).mono ?_); rintro e w' ⟨rfl, ⟨nd, rfl⟩⟩; (try first | exact ⟨rfl, _, World.drewN_drewN _ _ _⟩ | exact ⟨rfl, _, Eq.trans (World.drewN_drewN _ _ _) (congrArg (World.drewN _) (Nat.add_assoc _ _ _))⟩)) | (go_at_call 79; (with_reducible refine (impl_between.calls ((rd_T41 l0 x13_1).f1) (-1) (wrap64 (x13_1 - 1)) true _ A12.out).mono ?_); rintro e w' ⟨rfl, ⟨nd, rfl⟩⟩; (try first | exact ⟨rfl, _, World.drewN_drewN _ _ _⟩ | exact ⟨rfl, _, Eq.trans (World.drewN_drewN _ _ _) (congrArg (World.drewN _) (Nat.add_assoc _ _ _))⟩)) | (go_at_call 79; (with_reducible refine (impl_between.calls ((rd_T41 l0 x13_1).f2) (-1) (wrap64 (x13_1 - 1)) true _ A14.out).mono ?_); rintro e w' ⟨rfl, ⟨nd, rfl⟩⟩; (try first | exact ⟨rfl, _, World.drewN_drewN _ _ _⟩ | exact ⟨rfl, _, Eq.trans (World.drewN_drewN _ _ _) (congrArg (World.drewN _) (Nat.add_assoc _ _ _))⟩))); try go_wp2_with (first | (go_at_call 79; (with_reducible refine (impl_between.calls ((rd_T41 l0 x13_1).f0) 0 3000 true _ A10.out).mono ?_); rintro e w' ⟨rfl, ⟨nd, rfl⟩⟩; (try first | exact ⟨rfl, _, World.drewN_drewN _ _ _⟩ | exact ⟨rfl, _, Eq.trans (World.drewN_drewN _ _ _) (congrArg (World.drewN _) (Nat.add_assoc _ _ _))⟩)) | (go_at_call 79; (with_reducible refine (impl_between.calls ((rd_T41 l0 x13_1).f1) (-1) (wrap64 (x13_1 - 1)) true _ A12.out).mono ?_); rintro e w' ⟨rfl, ⟨nd, rfl⟩⟩; (try first | exact ⟨rfl, _, World.drewN_drewN _ _ _⟩ | exact ⟨rfl, _, Eq.trans (World.drewN_drewN _ _ _) (congrArg (World.drewN _) (Nat.add_assoc _ _ _))⟩)) | (go_at_call 79; (with_reducible refine (impl_between.calls ((rd_T41 l0 x13_1).f2) (-1) (wrap64 (x13_1 - 1)) true _ A14.out).mono ?_); rintro e w' ⟨rfl, ⟨nd, rfl⟩⟩; (try first | exact ⟨rfl, _, World.drewN_drewN _ _ _⟩ | exact ⟨rfl, _, Eq.trans (World.drewN_drewN _ _ _) (congrArg (World.drewN _) (Nat.add_assoc _ _ _))⟩))))
             go_meet
             case rel => exact ⟨_, (false), kY, H', ⟨by have := HK1.out; first | omega | exact Nat.le_refl _⟩, ⟨by (with_reducible repeat (first | refine blk_drewN ?_ _ | refine blk_drew ?_ | refine blk_alloc ?_ _)); refine blk_put (cs := #[.int .i64 ((rd_T41 l0 x13_1).f0), .int .i64 ((rd_T41 l0 x13_1).f1), .int .i64 0]) ?_ 2 _ rfl; (with_reducible repeat (first | refine blk_drewN ?_ _ | refine blk_drew ?_ | refine blk_alloc ?_ _)); refine blk_put (cs := #[.int .i64 ((rd_T41 l0 x13_1).f0), .int .i64 0, .int .i64 0]) ?_ 1 _ rfl; (with_reducible repeat (first | refine blk_drewN ?_ _ | refine blk_drew ?_ | refine blk_alloc ?_ _)); refine blk_put (cs := #[.int .i64 0, .int .i64 0, .int .i64 0]) ?_ 0 _ rfl; (with_reducible repeat (first | refine blk_drewN ?_ _ | refine blk_drew ?_ | refine blk_alloc ?_ _)); exact BK215.out⟩, kI⟩
          ·replace c15 := Bool.eq_false_iff.mpr c15
           subst c15
           rw [if_neg (show ¬ (false = true) by decide)] at H
           have H' := Aside0.mk H
           clear H
           have hcz25_0 : w8.cell? ⟨gb215, 0, none⟩ = some (.int .i64 0) := (blk_cell BK215.out 0).trans rfl
           have hcz25_1 : w8.cell? ⟨gb215, 1, none⟩ = some (.int .i64 0) := (blk_cell BK215.out 1).trans rfl
           have hcz25_2 : w8.cell? ⟨gb215, 2, none⟩ = some (.int .i64 0) := (blk_cell BK215.out 2).trans rfl
           have hfz25_0 := blk_frozen BK215.out 0
           have hfz25_1 := blk_frozen BK215.out 1
           have hfz25_2 := blk_frozen BK215.out 2
           go_wp2_with (first | (go_at_call 79; (with_reducible refine (impl_between.calls ((rd_T41 l0 x13_1).f0) 0 3000 true _ A10.out).mono ?_); rintro e w' ⟨rfl, ⟨nd, rfl⟩⟩; (try first | exact ⟨rfl, _, World.drewN_drewN _ _ _⟩ | exact ⟨rfl, _, Eq.trans (World.drewN_drewN _ _ _) (congrArg (World.drewN _) (Nat.add_assoc _ _ _))⟩)) | (go_at_call 79; (with_reducible refine (impl_between.calls ((rd_T41 l0 x13_1).f1) (-1) (wrap64 (x13_1 - 1)) true _ A12.out).mono ?_); rintro e w' ⟨rfl, ⟨nd, rfl⟩⟩; (try first | exact ⟨rfl, _, World.drewN_drewN _ _ _⟩ | exact ⟨rfl, _, Eq.trans (World.drewN_drewN _ _ _) (congrArg (World.drewN _) (Nat.add_assoc _ _ _))⟩)) | (go_at_call 79; (with_reducible refine (impl_between.calls ((rd_T41 l0 x13_1).f2) (-1) (wrap64 (x13_1 - 1)) false _ A14.out).mono ?_); rintro e w' ⟨rfl, ⟨nd, rfl⟩⟩; (try first | exact ⟨rfl, _, World.drewN_drewN _ _ _⟩ | exact ⟨rfl, _, Eq.trans (World.drewN_drewN _ _ _) (congrArg (World.drewN _) (Nat.add_assoc _ _ _))⟩)))
           repeat (go_quiet (first | (go_at_call 79; (with_reducible refine (impl_between.calls ((rd_T41 l0 x13_1).f0) 0 3000 true _ A10.out).mono ?_); rintro e w' ⟨rfl, ⟨nd, rfl⟩⟩; (try first | exact ⟨rfl, _, World.drewN_drewN _ _ _⟩ | exact ⟨rfl, _, Eq.trans (World.drewN_drewN _ _ _) (congrArg (World.drewN _) (Nat.add_assoc _ _ _))⟩)) | (go_at_call 79; (with_reducible refine (impl_between.calls ((rd_T41 l0 x13_1).f1) (-1) (wrap64 (x13_1 - 1)) true _ A12.out).mono ?_); rintro e w' ⟨rfl, ⟨nd, rfl⟩⟩; (try first | exact ⟨rfl, _, World.drewN_drewN _ _ _⟩ | exact ⟨rfl, _, Eq.trans (World.drewN_drewN _ _ _) (congrArg (World.drewN _) (Nat.add_assoc _ _ _))⟩)) | (go_at_call 79; (with_reducible refine (impl_between.calls ((rd_T41 l0 x13_1).f2) (-1) (wrap64 (x13_1 - 1)) false _ A14.out).mono ?_); rintro e w' ⟨rfl, ⟨nd, rfl⟩⟩; (try first | exact ⟨rfl, _, World.drewN_drewN _ _ _⟩ | exact ⟨rfl, _, Eq.trans (World.drewN_drewN _ _ _) (congrArg (World.drewN _) (Nat.add_assoc _ _ _))⟩))); try go_wp2_with (first | (go_at_call 79; (with_reducible refine (impl_between.calls ((rd_T41 l0 x13_1).f0) 0 3000 true _ A10.out).mono ?_); rintro e w' ⟨rfl, ⟨nd, rfl⟩⟩; (try first | exact ⟨rfl, _, World.drewN_drewN _ _ _⟩ | exact ⟨rfl, _, Eq.trans (World.drewN_drewN _ _ _) (congrArg (World.drewN _) (Nat.add_assoc _ _ _))⟩)) | (go_at_call 79; (with_reducible refine (impl_between.calls ((rd_T41 l0 x13_1).f1) (-1) (wrap64 (x13_1 - 1)) true _ A12.out).mono ?_); rintro e w' ⟨rfl, ⟨nd, rfl⟩⟩; (try first | exact ⟨rfl, _, World.drewN_drewN _ _ _⟩ | exact ⟨rfl, _, Eq.trans (World.drewN_drewN _ _ _) (congrArg (World.drewN _) (Nat.add_assoc _ _ _))⟩)) | (go_at_call 79; (with_reducible refine (impl_between.calls ((rd_T41 l0 x13_1).f2) (-1) (wrap64 (x13_1 - 1)) false _ A14.out).mono ?_); rintro e w' ⟨rfl, ⟨nd, rfl⟩⟩; (try first | exact ⟨rfl, _, World.drewN_drewN _ _ _⟩ | exact ⟨rfl, _, Eq.trans (World.drewN_drewN _ _ _) (congrArg (World.drewN _) (Nat.add_assoc _ _ _))⟩))))
           go_meet
           case rel => exact ⟨_, (true), kY, H', ⟨by have := HK1.out; first | omega | exact Nat.le_refl _⟩, ⟨by (with_reducible repeat (first | refine blk_drewN ?_ _ | refine blk_drew ?_ | refine blk_alloc ?_ _)); refine blk_put (cs := #[.int .i64 ((rd_T41 l0 x13_1).f0), .int .i64 ((rd_T41 l0 x13_1).f1), .int .i64 0]) ?_ 2 _ rfl; (with_reducible repeat (first | refine blk_drewN ?_ _ | refine blk_drew ?_ | refine blk_alloc ?_ _)); refine blk_put (cs := #[.int .i64 ((rd_T41 l0 x13_1).f0), .int .i64 0, .int .i64 0]) ?_ 1 _ rfl; (with_reducible repeat (first | refine blk_drewN ?_ _ | refine blk_drew ?_ | refine blk_alloc ?_ _)); refine blk_put (cs := #[.int .i64 0, .int .i64 0, .int .i64 0]) ?_ 0 _ rfl; (with_reducible repeat (first | refine blk_drewN ?_ _ | refine blk_drew ?_ | refine blk_alloc ?_ _)); exact BK215.out⟩, kI⟩
         ·replace c13 := Bool.eq_false_iff.mpr c13
          subst c13
          rw [if_neg (show ¬ (false = true) by decide)] at H
          have H' := Aside0.mk H
          clear H
          have hcz26_0 : w8.cell? ⟨gb215, 0, none⟩ = some (.int .i64 0) := (blk_cell BK215.out 0).trans rfl
          have hcz26_1 : w8.cell? ⟨gb215, 1, none⟩ = some (.int .i64 0) := (blk_cell BK215.out 1).trans rfl
          have hcz26_2 : w8.cell? ⟨gb215, 2, none⟩ = some (.int .i64 0) := (blk_cell BK215.out 2).trans rfl
          have hfz26_0 := blk_frozen BK215.out 0
          have hfz26_1 := blk_frozen BK215.out 1
          have hfz26_2 := blk_frozen BK215.out 2
          go_wp2_with (first | (go_at_call 79; (with_reducible refine (impl_between.calls ((rd_T41 l0 x13_1).f0) 0 3000 true _ A10.out).mono ?_); rintro e w' ⟨rfl, ⟨nd, rfl⟩⟩; (try first | exact ⟨rfl, _, World.drewN_drewN _ _ _⟩ | exact ⟨rfl, _, Eq.trans (World.drewN_drewN _ _ _) (congrArg (World.drewN _) (Nat.add_assoc _ _ _))⟩)) | (go_at_call 79; (with_reducible refine (impl_between.calls ((rd_T41 l0 x13_1).f1) (-1) (wrap64 (x13_1 - 1)) false _ A12.out).mono ?_); rintro e w' ⟨rfl, ⟨nd, rfl⟩⟩; (try first | exact ⟨rfl, _, World.drewN_drewN _ _ _⟩ | exact ⟨rfl, _, Eq.trans (World.drewN_drewN _ _ _) (congrArg (World.drewN _) (Nat.add_assoc _ _ _))⟩)))
          repeat (go_quiet (first | (go_at_call 79; (with_reducible refine (impl_between.calls ((rd_T41 l0 x13_1).f0) 0 3000 true _ A10.out).mono ?_); rintro e w' ⟨rfl, ⟨nd, rfl⟩⟩; (try first | exact ⟨rfl, _, World.drewN_drewN _ _ _⟩ | exact ⟨rfl, _, Eq.trans (World.drewN_drewN _ _ _) (congrArg (World.drewN _) (Nat.add_assoc _ _ _))⟩)) | (go_at_call 79; (with_reducible refine (impl_between.calls ((rd_T41 l0 x13_1).f1) (-1) (wrap64 (x13_1 - 1)) false _ A12.out).mono ?_); rintro e w' ⟨rfl, ⟨nd, rfl⟩⟩; (try first | exact ⟨rfl, _, World.drewN_drewN _ _ _⟩ | exact ⟨rfl, _, Eq.trans (World.drewN_drewN _ _ _) (congrArg (World.drewN _) (Nat.add_assoc _ _ _))⟩))); try go_wp2_with (first | (go_at_call 79; (with_reducible refine (impl_between.calls ((rd_T41 l0 x13_1).f0) 0 3000 true _ A10.out).mono ?_); rintro e w' ⟨rfl, ⟨nd, rfl⟩⟩; (try first | exact ⟨rfl, _, World.drewN_drewN _ _ _⟩ | exact ⟨rfl, _, Eq.trans (World.drewN_drewN _ _ _) (congrArg (World.drewN _) (Nat.add_assoc _ _ _))⟩)) | (go_at_call 79; (with_reducible refine (impl_between.calls ((rd_T41 l0 x13_1).f1) (-1) (wrap64 (x13_1 - 1)) false _ A12.out).mono ?_); rintro e w' ⟨rfl, ⟨nd, rfl⟩⟩; (try first | exact ⟨rfl, _, World.drewN_drewN _ _ _⟩ | exact ⟨rfl, _, Eq.trans (World.drewN_drewN _ _ _) (congrArg (World.drewN _) (Nat.add_assoc _ _ _))⟩))))
          go_meet
          case rel => exact ⟨_, (true), kY, H', ⟨by have := HK1.out; first | omega | exact Nat.le_refl _⟩, ⟨by (with_reducible repeat (first | refine blk_drewN ?_ _ | refine blk_drew ?_ | refine blk_alloc ?_ _)); refine blk_put (cs := #[.int .i64 ((rd_T41 l0 x13_1).f0), .int .i64 ((rd_T41 l0 x13_1).f1), .int .i64 0]) ?_ 2 _ rfl; (with_reducible repeat (first | refine blk_drewN ?_ _ | refine blk_drew ?_ | refine blk_alloc ?_ _)); refine blk_put (cs := #[.int .i64 ((rd_T41 l0 x13_1).f0), .int .i64 0, .int .i64 0]) ?_ 1 _ rfl; (with_reducible repeat (first | refine blk_drewN ?_ _ | refine blk_drew ?_ | refine blk_alloc ?_ _)); refine blk_put (cs := #[.int .i64 0, .int .i64 0, .int .i64 0]) ?_ 0 _ rfl; (with_reducible repeat (first | refine blk_drewN ?_ _ | refine blk_drew ?_ | refine blk_alloc ?_ _)); exact BK215.out⟩, kI⟩
        ·replace c11 := Bool.eq_false_iff.mpr c11
         subst c11
         rw [if_neg (show ¬ (false = true) by decide)] at H
         have H' := Aside0.mk H
         clear H
         have hcz27_0 : w8.cell? ⟨gb215, 0, none⟩ = some (.int .i64 0) := (blk_cell BK215.out 0).trans rfl
         have hcz27_1 : w8.cell? ⟨gb215, 1, none⟩ = some (.int .i64 0) := (blk_cell BK215.out 1).trans rfl
         have hcz27_2 : w8.cell? ⟨gb215, 2, none⟩ = some (.int .i64 0) := (blk_cell BK215.out 2).trans rfl
         have hfz27_0 := blk_frozen BK215.out 0
         have hfz27_1 := blk_frozen BK215.out 1
         have hfz27_2 := blk_frozen BK215.out 2
         go_wp2_with (first | (go_at_call 79; (with_reducible refine (impl_between.calls ((rd_T41 l0 x13_1).f0) 0 3000 false _ A10.out).mono ?_); rintro e w' ⟨rfl, ⟨nd, rfl⟩⟩; (try first | exact ⟨rfl, _, World.drewN_drewN _ _ _⟩ | exact ⟨rfl, _, Eq.trans (World.drewN_drewN _ _ _) (congrArg (World.drewN _) (Nat.add_assoc _ _ _))⟩)))
         repeat (go_quiet (first | (go_at_call 79; (with_reducible refine (impl_between.calls ((rd_T41 l0 x13_1).f0) 0 3000 false _ A10.out).mono ?_); rintro e w' ⟨rfl, ⟨nd, rfl⟩⟩; (try first | exact ⟨rfl, _, World.drewN_drewN _ _ _⟩ | exact ⟨rfl, _, Eq.trans (World.drewN_drewN _ _ _) (congrArg (World.drewN _) (Nat.add_assoc _ _ _))⟩))); try go_wp2_with (first | (go_at_call 79; (with_reducible refine (impl_between.calls ((rd_T41 l0 x13_1).f0) 0 3000 false _ A10.out).mono ?_); rintro e w' ⟨rfl, ⟨nd, rfl⟩⟩; (try first | exact ⟨rfl, _, World.drewN_drewN _ _ _⟩ | exact ⟨rfl, _, Eq.trans (World.drewN_drewN _ _ _) (congrArg (World.drewN _) (Nat.add_assoc _ _ _))⟩))))
         go_meet
         case rel => exact ⟨_, (true), kY, H', ⟨by have := HK1.out; first | omega | exact Nat.le_refl _⟩, ⟨by (with_reducible repeat (first | refine blk_drewN ?_ _ | refine blk_drew ?_ | refine blk_alloc ?_ _)); refine blk_put (cs := #[.int .i64 ((rd_T41 l0 x13_1).f0), .int .i64 ((rd_T41 l0 x13_1).f1), .int .i64 0]) ?_ 2 _ rfl; (with_reducible repeat (first | refine blk_drewN ?_ _ | refine blk_drew ?_ | refine blk_alloc ?_ _)); refine blk_put (cs := #[.int .i64 ((rd_T41 l0 x13_1).f0), .int .i64 0, .int .i64 0]) ?_ 1 _ rfl; (with_reducible repeat (first | refine blk_drewN ?_ _ | refine blk_drew ?_ | refine blk_alloc ?_ _)); refine blk_put (cs := #[.int .i64 0, .int .i64 0, .int .i64 0]) ?_ 0 _ rfl; (with_reducible repeat (first | refine blk_drewN ?_ _ | refine blk_drew ?_ | refine blk_alloc ?_ _)); exact BK215.out⟩, kI⟩
       case rest =>
        clear HC7
        try clear c3
        try clear c4
        try clear c4b0
        try clear c5
        try clear c5b0
        try clear c6
        try clear c6b0
        try clear hcz9_0
        try clear hcz9_1
        try clear hcz9_2
        try clear hfz9_0
        try clear hfz9_1
        try clear hfz9_2
        try clear p214
        obtain ⟨kq, x59_6, rfl, HA, HJ6, BK215, HB⟩ := hcut
        cases kq with
        | zero => exact absurd HA.out (by simp [impl_IsFamily.j1])
        | succ kj6 =>
         have H := HA.out
         clear HA
         simp only [impl_IsFamily.j1] at H
         by_cases c28 : x59_6 = true
         ·subst c28
          rw [if_pos rfl] at H
          obtain rfl := Option.some.inj H
          go_wp2
          repeat (go_quiet (fail); try go_wp2)
          go_ret
          exact ⟨kZ, kO⟩
         ·replace c28 := Bool.eq_false_iff.mpr c28
          subst c28
          rw [if_neg (show ¬ (false = true) by decide)] at H
          replace H := Option.bind_eq_some_iff.mp H
          obtain ⟨t219, A290, H⟩ := H
          have A29 := Aside0.mk A290
          clear A290
          have H' := Aside0.mk H
          clear H
          have hcz30_0 : wc.cell? ⟨gb215, 0, none⟩ = some (.int .i64 ((rd_T41 l0 x13_1).f0)) := (blk_cell BK215.out 0).trans rfl
          have hcz30_1 : wc.cell? ⟨gb215, 1, none⟩ = some (.int .i64 ((rd_T41 l0 x13_1).f1)) := (blk_cell BK215.out 1).trans rfl
          have hcz30_2 : wc.cell? ⟨gb215, 2, none⟩ = some (.int .i64 ((rd_T41 l0 x13_1).f2)) := (blk_cell BK215.out 2).trans rfl
          have hfz30_0 := blk_frozen BK215.out 0
          have hfz30_1 := blk_frozen BK215.out 1
          have hfz30_2 := blk_frozen BK215.out 2
          go_wp2_with (first | (go_at_call 49; (with_reducible refine (impl_Kin_parents.calls ((rd_T41 l0 x13_1).f0) ((rd_T41 l0 x13_1).f1) ((rd_T41 l0 x13_1).f2) t219 _ A29.out).mono ?_); rintro e w31 ⟨v220, rfl, ho0, hb⟩; have n0_ := Aside0.mk (Kd.R_lower ho0 (below_size kO)); have n1_ := kB BK215 hb; have n2_ := kH HB hb; clear BK215; clear HB; have HO221 := n0_; have BK215 := n1_; have HB := n2_; clear n0_ n1_ n2_; (try clear hb); (try clear ho0); obtain ⟨Ao32, co32, eo32⟩ := Kd.R_slice HO221.out; subst eo32))
          repeat (go_quiet (first | (go_at_call 49; (with_reducible refine (impl_Kin_parents.calls ((rd_T41 l0 x13_1).f0) ((rd_T41 l0 x13_1).f1) ((rd_T41 l0 x13_1).f2) t219 _ A29.out).mono ?_); rintro e w31 ⟨v220, rfl, ho0, hb⟩; have n0_ := Aside0.mk (Kd.R_lower ho0 (below_size kO)); have n1_ := kB BK215 hb; have n2_ := kH HB hb; clear BK215; clear HB; have HO221 := n0_; have BK215 := n1_; have HB := n2_; clear n0_ n1_ n2_; (try clear hb); (try clear ho0); obtain ⟨Ao32, co32, eo32⟩ := Kd.R_slice HO221.out; subst eo32)); try go_wp2_with (first | (go_at_call 49; (with_reducible refine (impl_Kin_parents.calls ((rd_T41 l0 x13_1).f0) ((rd_T41 l0 x13_1).f1) ((rd_T41 l0 x13_1).f2) t219 _ A29.out).mono ?_); rintro e w31 ⟨v220, rfl, ho0, hb⟩; have n0_ := Aside0.mk (Kd.R_lower ho0 (below_size kO)); have n1_ := kB BK215 hb; have n2_ := kH HB hb; clear BK215; clear HB; have HO221 := n0_; have BK215 := n1_; have HB := n2_; clear n0_ n1_ n2_; (try clear hb); (try clear ho0); obtain ⟨Ao32, co32, eo32⟩ := Kd.R_slice HO221.out; subst eo32)))
          go_loopg [63] kj6 (fun kq v63 w' => ∃ (x63_3 : Int), v63 = .int .i64 x63_3 ∧ Aside0 (impl_IsFamily.l1 kq l0 l0 (l0.length : Int) x13_1 t219 (t219.length : Int) x63_3 ((rd_T41 l0 x13_1).f0) ((rd_T41 l0 x13_1).f1) ((rd_T41 l0 x13_1).f2) = some r) ∧ Aside0 (kq ≤ kj6) ∧ Aside0 (Kd.R (Kd.int .i64) 3 w' w.heap.size (fun _ => True) (.slice Ao32 t219.length co32) t219) ∧ Aside0 (w'.heap[gb215]? = some (.cells #[.int .i64 ((rd_T41 l0 x13_1).f0), .int .i64 ((rd_T41 l0 x13_1).f1), .int .i64 ((rd_T41 l0 x13_1).f2)] 41 (0, 0))) ∧ Aside0 (Below w.heap.size w w'))
          case atStart => exact ⟨(0), kY, H', ⟨Nat.le_refl _⟩, ⟨kW HO221⟩, kA, kI⟩
          case round =>
           clear H'
           try clear c3
           try clear c4
           try clear c4b0
           try clear c5
           try clear c5b0
           try clear c6
           try clear c6b0
           try clear c28
           try clear hcz30_0
           try clear hcz30_1
           try clear hcz30_2
           try clear hcz9_0
           try clear hcz9_1
           try clear hcz9_2
           try clear hfz30_0
           try clear hfz30_1
           try clear hfz30_2
           try clear hfz9_0
           try clear hfz9_1
           try clear hfz9_2
           try clear p214
           obtain ⟨x63_3, rfl, HA, HK3, HO_61, BK215, HB⟩ := hrel
           cases gk with
           | zero => exact absurd HA.out (by simp [impl_IsFamily.l1])
           | succ k3 =>
            have H := HA.out
            clear HA
            simp only [impl_IsFamily.l1] at H
            by_cases c33 : x63_3 < (t219.length : Int)
            ·rw [if_pos c33] at H
             have c33b0 : decide (x63_3 < (t219.length : Int)) = true := decide_eq_true c33
             clear c33
             by_cases c34 : 0 ≤ x63_3
             ·rw [if_pos c34] at H
              have c34b0 : decide (0 ≤ x63_3) = true := decide_eq_true c34
              clear c34
              by_cases c35 : x63_3 < (t219.length : Int)
              ·rw [if_pos c35] at H
               have c35b0 : decide (x63_3 < (t219.length : Int)) = true := decide_eq_true c35
               clear c35
               by_cases c36 : 0 ≤ (rd t219 x63_3)
               ·rw [if_pos c36] at H
                have c36b0 : decide (0 ≤ (rd t219 x63_3)) = true := decide_eq_true c36
                clear c36
                by_cases c37 : (rd t219 x63_3) < (l0.length : Int)
                ·rw [if_pos c37] at H
                 have c37b0 : decide ((rd t219 x63_3) < (l0.length : Int)) = true := decide_eq_true c37
                 clear c37
                 by_cases c38 : (wrap64 (((rd_T41 l0 (rd t219 x63_3)).f0) + 14)) > ((rd_T41 l0 x13_1).f0)
                 ·rw [if_pos c38] at H
                  have c38b0 : decide (((rd_T41 l0 x13_1).f0) < (wrap64 (((rd_T41 l0 (rd t219 x63_3)).f0) + 14))) = true := decide_eq_true c38
                  clear c38
                  obtain rfl := Option.some.inj H
                  have p222 : 0 ≤ (x63_3 : Int) := of_decide_eq_true (by first | (with_reducible assumption) | assumption)
                  have q222 : x63_3 < (t219.length : Int) := of_decide_eq_true (by first | (with_reducible assumption) | assumption)
                  obtain ⟨ad222, e222, hx222_0⟩ := Kd.at_int (Kd.R_reads' HO_61.out).2.2 x63_3 p222 q222
                  cases e222
                  replace p222 := eq_true p222
                  replace q222 := eq_true q222
                  have p223 : 0 ≤ ((rd t219 x63_3) : Int) := of_decide_eq_true (by first | (with_reducible assumption) | assumption)
                  have q223 : (rd t219 x63_3) < (l0.length : Int) := of_decide_eq_true (by first | (with_reducible assumption) | assumption)
                  obtain ⟨ad223, e223, hx223_0, hx223_1, hx223_2⟩ := at_T41 HR0.out (rd t219 x63_3) p223 q223
                  obtain rfl : ad214 = ad223 := (by injection e223)
                  replace hx223_0 := (HB.out.cell (World.block_lt_of_cell? w _ hx223_0)).trans hx223_0
                  replace hx223_1 := (HB.out.cell (World.block_lt_of_cell? w _ hx223_1)).trans hx223_1
                  replace hx223_2 := (HB.out.cell (World.block_lt_of_cell? w _ hx223_2)).trans hx223_2
                  replace p223 := eq_true p223
                  replace q223 := eq_true q223
                  have hcz39_0 : wr.cell? ⟨gb215, 0, none⟩ = some (.int .i64 ((rd_T41 l0 x13_1).f0)) := (blk_cell BK215.out 0).trans rfl
                  have hcz39_1 : wr.cell? ⟨gb215, 1, none⟩ = some (.int .i64 ((rd_T41 l0 x13_1).f1)) := (blk_cell BK215.out 1).trans rfl
                  have hcz39_2 : wr.cell? ⟨gb215, 2, none⟩ = some (.int .i64 ((rd_T41 l0 x13_1).f2)) := (blk_cell BK215.out 2).trans rfl
                  have hfz39_0 := blk_frozen BK215.out 0
                  have hfz39_1 := blk_frozen BK215.out 1
                  have hfz39_2 := blk_frozen BK215.out 2
                  go_wp2
                  repeat (go_quiet (fail); try go_wp2)
                  go_ret
                  exact ⟨kZ, kO⟩
                 ·rw [if_neg c38] at H
                  have c38b0 : decide (((rd_T41 l0 x13_1).f0) < (wrap64 (((rd_T41 l0 (rd t219 x63_3)).f0) + 14))) = false := decide_eq_false c38
                  clear c38
                  have H' := Aside0.mk H
                  clear H
                  have p222 : 0 ≤ (x63_3 : Int) := of_decide_eq_true (by first | (with_reducible assumption) | assumption)
                  have q222 : x63_3 < (t219.length : Int) := of_decide_eq_true (by first | (with_reducible assumption) | assumption)
                  obtain ⟨ad222, e222, hx222_0⟩ := Kd.at_int (Kd.R_reads' HO_61.out).2.2 x63_3 p222 q222
                  cases e222
                  replace p222 := eq_true p222
                  replace q222 := eq_true q222
                  have p223 : 0 ≤ ((rd t219 x63_3) : Int) := of_decide_eq_true (by first | (with_reducible assumption) | assumption)
                  have q223 : (rd t219 x63_3) < (l0.length : Int) := of_decide_eq_true (by first | (with_reducible assumption) | assumption)
                  obtain ⟨ad223, e223, hx223_0, hx223_1, hx223_2⟩ := at_T41 HR0.out (rd t219 x63_3) p223 q223
                  obtain rfl : ad214 = ad223 := (by injection e223)
                  replace hx223_0 := (HB.out.cell (World.block_lt_of_cell? w _ hx223_0)).trans hx223_0
                  replace hx223_1 := (HB.out.cell (World.block_lt_of_cell? w _ hx223_1)).trans hx223_1
                  replace hx223_2 := (HB.out.cell (World.block_lt_of_cell? w _ hx223_2)).trans hx223_2
                  replace p223 := eq_true p223
                  replace q223 := eq_true q223
                  have hcz40_0 : wr.cell? ⟨gb215, 0, none⟩ = some (.int .i64 ((rd_T41 l0 x13_1).f0)) := (blk_cell BK215.out 0).trans rfl
                  have hcz40_1 : wr.cell? ⟨gb215, 1, none⟩ = some (.int .i64 ((rd_T41 l0 x13_1).f1)) := (blk_cell BK215.out 1).trans rfl
                  have hcz40_2 : wr.cell? ⟨gb215, 2, none⟩ = some (.int .i64 ((rd_T41 l0 x13_1).f2)) := (blk_cell BK215.out 2).trans rfl
                  have hfz40_0 := blk_frozen BK215.out 0
                  have hfz40_1 := blk_frozen BK215.out 1
                  have hfz40_2 := blk_frozen BK215.out 2
                  go_wp2
                  repeat (go_quiet (fail); try go_wp2)
                  go_roundg k3
                  case measure => have := HK1.out; have := HJ6.out; have := HK3.out; omega
                  case rel => exact ⟨(wrap64 (x63_3 + 1)), kY, H', ⟨by have := HK1.out; have := HJ6.out; have := HK3.out; omega⟩, ⟨kW HO_61⟩, kA, kI⟩
                ·rw [if_neg c37] at H
                 exact absurd H (by simp)
               ·rw [if_neg c36] at H
                exact absurd H (by simp)
              ·rw [if_neg c35] at H
               exact absurd H (by simp)
             ·rw [if_neg c34] at H
              exact absurd H (by simp)
            ·rw [if_neg c33] at H
             have c33b0 : decide (x63_3 < (t219.length : Int)) = false := decide_eq_false c33
             clear c33
             have H' := Aside0.mk H
             clear H
             go_wp2
             repeat (go_quiet (fail); try go_wp2)
             go_roundg k3
             case measure => have := HK1.out; have := HJ6.out; have := HK3.out; omega
             case rel => exact ⟨(wrap64 (x13_1 + 1)), kY, H', ⟨by have := HK1.out; have := HJ6.out; have := HK3.out; omega⟩, kI⟩
      ·rw [if_neg c6] at H
       exact absurd H (by simp)
     ·rw [if_neg c5] at H
      exact absurd H (by simp)
    ·rw [if_neg c4] at H
     have c4b0 : decide (x13_1 < (l0.length : Int)) = false := decide_eq_false c4
     clear c4
     obtain rfl := Option.some.inj H
     go_wp2
     repeat (go_quiet (fail); try go_wp2)
     go_ret
     exact ⟨kZ, kO⟩
 ·replace c3 := Bool.eq_false_iff.mpr c3
  subst c3
  rw [if_neg (show ¬ (false = true) by decide)] at H
  obtain rfl := Option.some.inj H
  go_enter Tryz.func58, Tryz.ntmps58
  go_wp2_with (first | (go_at_call 79; (with_reducible refine (impl_between.calls (l0.length : Int) 1 14 false _ A2.out).mono ?_); rintro e w' ⟨rfl, ⟨nd, rfl⟩⟩; (try first | exact ⟨rfl, _, World.drewN_drewN _ _ _⟩ | exact ⟨rfl, _, Eq.trans (World.drewN_drewN _ _ _) (congrArg (World.drewN _) (Nat.add_assoc _ _ _))⟩)))
  repeat (go_quiet (first | (go_at_call 79; (with_reducible refine (impl_between.calls (l0.length : Int) 1 14 false _ A2.out).mono ?_); rintro e w' ⟨rfl, ⟨nd, rfl⟩⟩; (try first | exact ⟨rfl, _, World.drewN_drewN _ _ _⟩ | exact ⟨rfl, _, Eq.trans (World.drewN_drewN _ _ _) (congrArg (World.drewN _) (Nat.add_assoc _ _ _))⟩))); try go_wp2_with (first | (go_at_call 79; (with_reducible refine (impl_between.calls (l0.length : Int) 1 14 false _ A2.out).mono ?_); rintro e w' ⟨rfl, ⟨nd, rfl⟩⟩; (try first | exact ⟨rfl, _, World.drewN_drewN _ _ _⟩ | exact ⟨rfl, _, Eq.trans (World.drewN_drewN _ _ _) (congrArg (World.drewN _) (Nat.add_assoc _ _ _))⟩))))
  go_ret
  exact ⟨kZ, kO⟩

end Go.Proofs.YtllihaahppelhaaGreat.P
namespace Go.Proofs.YtllihaahppelhaaGreat.P
open Go.RowKit Go.Proofs.YtllihaahppelhaaGreatW.PrintWords Go.Proofs.YtllihaahppelhaaGreatW.PrintLast Go.Proofs.YtllihaahppelhaaGreatW.PrintMore
attribute [local go_sem] max2_int min2_int max_two min_two max_three min_three max_four min_four   -- for this text's walks alone
set_option linter.unusedVariables false
set_option linter.unusedSimpArgs false

/-! ### slices_ContainsFunc_int_int: function 63, by hand -/
-- IMPORT Derived.Test.YtllihaahppelhaaGreatHlp
set_option maxHeartbeats 1000000 in
/-- slices.ContainsFunc at []int: is there an element of which p holds. -/
theorem slices_ContainsFunc_int_int.any (p : Int → Bool) (g : Nat) (lb : Array Value) (eg : ∀ args w, (callFunc g args).run Tryz.prog w = .ok (.enter g args) w) (A0 : Option Addr) (c0 : Nat) (l0 : List Int) (w : World) (hr0 : Kd.C (Kd.int .i64) w A0 l0.length l0)
    (hp : ∀ x, x ∈ l0 → ∀ W, Below w.heap.size w W → Calls Tryz.prog g (#[.int .i64 x] ++ lb) W fun e w' => e = .returned (.bool (p x)) ∧ Below W.heap.size W w') :
    Calls Tryz.prog 63 #[.slice A0 l0.length c0, .func (.func g) #[] lb] w fun e w' => e = .returned (.bool (l0.any p)) ∧ Below w.heap.size w w' := by
  rw [← Hlp.fidx_any]
  have hcon := slices_IndexFunc_int_int.any p g lb eg A0 c0 l0 w hr0 hp
  have HC : Aside0 _ := ⟨hcon⟩
  clear hcon hr0 hp
  go_enter Tryz.func63, Tryz.ntmps63
  go_wp2_with (go_at_call 51; refine HC.out.mono ?_; rintro e w' ⟨rfl, hb⟩)
  go_ret
  exact ⟨rfl, hb⟩

end Go.Proofs.YtllihaahppelhaaGreat.P
namespace Go.Proofs.YtllihaahppelhaaGreat.P
open Go.RowKit Go.Proofs.YtllihaahppelhaaGreatW.PrintWords Go.Proofs.YtllihaahppelhaaGreatW.PrintLast Go.Proofs.YtllihaahppelhaaGreatW.PrintMore
attribute [local go_sem] max2_int min2_int max_two min_two max_three min_three max_four min_four   -- for this text's walks alone
set_option linter.unusedVariables false
set_option linter.unusedSimpArgs false

/-! ### impl_areBetween: function 62, by hand -/
-- IMPORT Derived.Test.YtllihaahppelhaaGreatHlp
def impl_areBetween.f (l0 : List Int) (a1 a2 : Int) : Option Bool := some (l0.all fun n => decide (a1 ≤ n) && decide (n ≤ a2))
set_option maxHeartbeats 1000000 in
theorem impl_areBetween.clo (lo hi n : Int) (B1 B2 : Nat) (W : World) (h1 : W.cell? ⟨B1, 0, none⟩ = some (.int .i64 lo)) (h2 : W.cell? ⟨B2, 0, none⟩ = some (.int .i64 hi)) :
    Calls Tryz.prog 84 #[.int .i64 n, .pointer (some ⟨B1, 0, none⟩), .pointer (some ⟨B2, 0, none⟩)] W fun e w' => e = .returned (.bool (!(decide (lo ≤ n) && decide (n ≤ hi)))) ∧ Below W.heap.size W w' := by
  have hf : impl_between.f n lo hi = some (decide (lo ≤ n) && decide (n ≤ hi)) := by
    unfold impl_between.f
    by_cases h : n ≥ lo
    · rw [if_pos h]; simp [show lo ≤ n from h]
    · rw [if_neg h]; simp [show ¬ lo ≤ n from h]
  have hcall := fun W => impl_between.calls n lo hi _ W hf
  generalize (decide (lo ≤ n) && decide (n ≤ hi)) = b at hcall ⊢
  clear hf
  go_enter Tryz.func84, Tryz.ntmps84
  go_wp2_with (go_at_call 79; refine (hcall _).mono ?_; rintro e w' ⟨rfl, hd⟩)
  go_ret
  exact ⟨rfl, hd.below⟩
set_option maxHeartbeats 1000000 in
theorem impl_areBetween.calls (A0 : Option Addr) (c0 : Nat) (l0 : List Int) (a1 : Int) (a2 : Int) (r : Bool) (w : World) (hr0 : Kd.C (Kd.int .i64) w A0 l0.length l0) (hc0 : l0.length ≤ c0) (h : impl_areBetween.f l0 a1 a2 = some r) :
    Calls Tryz.prog 62 #[.slice A0 l0.length c0, .int .i64 a1, .int .i64 a2] w fun e w' => e = .returned (.bool r) ∧ Below w.heap.size w w' := by
  obtain rfl : l0.all (fun n => decide (a1 ≤ n) && decide (n ≤ a2)) = r := Option.some.inj h
  have eg : ∀ args w, (callFunc 84 args).run Tryz.prog w = .ok (.enter 84 args) w := enters_of Tryz.func84 (by kernel_rfl) rfl
  have hb1 : Below w.heap.size w ((w.alloc (.cells #[.int .i64 a1] 3)).alloc (.cells #[.int .i64 a2] 3)) := ((Below.refl _ w).alloc (Nat.le_refl _) _).alloc (by simp) _
  have hcon := slices_ContainsFunc_int_int.any (fun n => !(decide (a1 ≤ n) && decide (n ≤ a2))) 84 #[.pointer (some ⟨w.heap.size, 0, none⟩), .pointer (some ⟨w.heap.size + 1, 0, none⟩)] eg A0 c0 l0 ((w.alloc (.cells #[.int .i64 a1] 3)).alloc (.cells #[.int .i64 a2] 3)) (Kd.C_below hr0 hb1)
    (fun x _ W hW => impl_areBetween.clo a1 a2 x _ _ W ((hW.cell (p := ⟨w.heap.size, 0, none⟩) (by simp; omega)).trans (by simp)) ((hW.cell (p := ⟨w.heap.size + 1, 0, none⟩) (by simp)).trans (by simp)))
  have e : l0.all (fun n => decide (a1 ≤ n) && decide (n ≤ a2)) = !(l0.any fun n => !(decide (a1 ≤ n) && decide (n ≤ a2))) := by
    rw [List.not_any_eq_all_not]; simp
  rw [e]
  generalize (l0.any fun n => !(decide (a1 ≤ n) && decide (n ≤ a2))) = b at hcon ⊢
  have HC : Aside0 _ := ⟨hcon⟩
  clear hcon e hr0 h
  have HB : Aside0 _ := ⟨hb1⟩
  clear hb1
  go_enter Tryz.func62, Tryz.ntmps62
  go_wp2_with (go_at_call 63; refine HC.out.mono ?_; rintro e w' ⟨rfl, hb⟩)
  go_ret
  exact ⟨rfl, below_then HB.out (by simp; omega) hb⟩

end Go.Proofs.YtllihaahppelhaaGreat.P
namespace Go.Proofs.YtllihaahppelhaaGreat.P
open Go.RowKit Go.Proofs.YtllihaahppelhaaGreatW.PrintWords Go.Proofs.YtllihaahppelhaaGreatW.PrintLast Go.Proofs.YtllihaahppelhaaGreatW.PrintMore
attribute [local go_sem] max2_int min2_int max_two min_two max_three min_three max_four min_four   -- for this text's walks alone
set_option linter.unusedVariables false
set_option linter.unusedSimpArgs false

/-! ### impl_hasKin: function 31 -/
def impl_hasKin.f (k : Nat) (l0 : List (S41)) (l1 : List Int) : Option (Bool) := (impl_IsFamily.f k l0).bind fun t224 => (if t224 = true then ((impl_areBetween.f l1 0 (wrap64 ((l0.length : Int) - 1))).bind fun t225 => (some t225)) else (some false))
set_option maxHeartbeats 8000000 in
set_option maxRecDepth 100000 in
theorem impl_hasKin.calls (k : Nat) (A0 : Option Addr) (c0 : Nat) (l0 : List (S41)) (A1 : Option Addr) (c1 : Nat) (l1 : List Int) (r : Bool) (w : World) (hr0 : Kd.C k41 w A0 l0.length l0) (hc0 : l0.length ≤ c0) (hr1 : Kd.C (Kd.int .i64) w A1 l1.length l1) (hc1 : l1.length ≤ c1) (h : impl_hasKin.f k l0 l1 = some r) :
  Calls Tryz.prog 31 #[.slice A0 l0.length c0, .slice A1 l1.length c1] w fun e w' => e = .returned (.bool r) ∧ Below w.heap.size w w' := by
 have HR0 := Aside0.mk hr0
 have HC0 := Aside0.mk hc0
 clear hr0 hc0
 have HR1 := Aside0.mk hr1
 have HC1 := Aside0.mk hc1
 clear hr1 hc1
 have HB := Aside0.mk (Below.refl w.heap.size w)
 have H : ((impl_IsFamily.f k l0).bind fun t224 => (if t224 = true then ((impl_areBetween.f l1 0 (wrap64 ((l0.length : Int) - 1))).bind fun t225 => (some t225)) else (some false))) = some r := h
 clear h
 replace H := Option.bind_eq_some_iff.mp H
 obtain ⟨t224, A30, H⟩ := H
 have A3 := Aside0.mk A30
 clear A30
 by_cases c4 : t224 = true
 ·subst c4
  rw [if_pos rfl] at H
  replace H := Option.bind_eq_some_iff.mp H
  obtain ⟨t225, A50, H⟩ := H
  have A5 := Aside0.mk A50
  clear A50
  obtain rfl := Option.some.inj H
  go_enter Tryz.func31, Tryz.ntmps31
  go_wp2_with (first | ((with_reducible refine gate_callee (f := 58) rfl ?_); refine kE (some 6) Tryz.func58 #[.slice A0 l0.length c0] rfl ?_; (with_reducible refine (impl_IsFamily.calls k _ _ l0 true _ ?side1 ?side2 A3.out).mono ?_); (case side1 => exact kD HR0); (case side2 => exact HC0.out); rintro e w6 ⟨rfl, hb⟩; refine ⟨_, rfl, ?_⟩; replace HB := kH HB hb; (try clear hb)) | (go_at_call 62; (with_reducible refine (impl_areBetween.calls _ _ l1 0 (wrap64 ((l0.length : Int) - 1)) t225 _ ?side1 ?side2 A5.out).mono ?_); (case side1 => exact kDb HR1); (case side2 => exact HC1.out); rintro e w7 ⟨rfl, hb⟩; replace HB := kH HB hb; (try clear hb)))
  go_ret
  exact ⟨kZ, kO⟩
 ·replace c4 := Bool.eq_false_iff.mpr c4
  subst c4
  rw [if_neg (show ¬ (false = true) by decide)] at H
  obtain rfl := Option.some.inj H
  go_enter Tryz.func31, Tryz.ntmps31
  go_wp2_with (first | ((with_reducible refine gate_callee (f := 58) rfl ?_); refine kE (some 6) Tryz.func58 #[.slice A0 l0.length c0] rfl ?_; (with_reducible refine (impl_IsFamily.calls k _ _ l0 false _ ?side1 ?side2 A3.out).mono ?_); (case side1 => exact kD HR0); (case side2 => exact HC0.out); rintro e w8 ⟨rfl, hb⟩; refine ⟨_, rfl, ?_⟩; replace HB := kH HB hb; (try clear hb)))
  go_ret
  exact ⟨kZ, kO⟩

end Go.Proofs.YtllihaahppelhaaGreat.P
namespace Go.Proofs.YtllihaahppelhaaGreat.P
open Go.RowKit Go.Proofs.YtllihaahppelhaaGreatW.PrintWords Go.Proofs.YtllihaahppelhaaGreatW.PrintLast Go.Proofs.YtllihaahppelhaaGreatW.PrintMore
attribute [local go_sem] max2_int min2_int max_two min_two max_three min_three max_four min_four   -- for this text's walks alone
set_option linter.unusedVariables false
set_option linter.unusedSimpArgs false

/-! ### slices_Index_int_int: function 67 -/
def slices_Index_int_int.l0 : Nat → List Int → Int → Int → Int → Option (Int)
 | 0, _, _, _, _ => none
 | k + 1, x0, x1, x7, x8 => if x8 < x7 then (if 0 ≤ x8 then (if x8 < (x0.length : Int) then (if x1 = (rd x0 x8) then (some x8) else (slices_Index_int_int.l0 k x0 x1 x7 (wrap64 (x8 + 1)))) else (none)) else (none)) else (some (-1))
def slices_Index_int_int.f (k : Nat) (l0 : List Int) (a1 : Int) : Option (Int) := slices_Index_int_int.l0 k l0 a1 (l0.length : Int) 0
set_option maxHeartbeats 8000000 in
set_option maxRecDepth 100000 in
theorem slices_Index_int_int.calls (k : Nat) (A0 : Option Addr) (c0 : Nat) (l0 : List Int) (a1 : Int) (r : Int) (w : World) (hr0 : Kd.C (Kd.int .i64) w A0 l0.length l0) (hc0 : l0.length ≤ c0) (h : slices_Index_int_int.f k l0 a1 = some r) :
  Calls Tryz.prog 67 #[.slice A0 l0.length c0, .int .i64 a1] w fun e w' => e = .returned (.int .i64 r) ∧ Drawn0 w w' := by
 have HR0 := Aside0.mk hr0
 have HC0 := Aside0.mk hc0
 clear hr0 hc0
 have H : (slices_Index_int_int.l0 k l0 a1 (l0.length : Int) 0) = some r := h
 clear h
 have H' := Aside0.mk H
 clear H
 go_enter Tryz.func67, Tryz.ntmps67
 go_wp2
 go_loopg [8] k (fun kq v8 w' => ∃ (x8_1 : Int), v8 = .int .i64 x8_1 ∧ Aside0 (slices_Index_int_int.l0 kq l0 a1 (l0.length : Int) x8_1 = some r) ∧ Aside0 (kq ≤ k) ∧ Drawn0 w w')
 case atStart => exact ⟨(0), kY, H', ⟨Nat.le_refl _⟩, by repeat (first | exact Drawn0.refl _ | apply Drawn0.step)⟩
 case round =>
  clear H'
  obtain ⟨x8_1, rfl, HA, HK1, ⟨m1, rfl⟩⟩ := hrel
  cases gk with
  | zero => exact absurd HA.out (by simp [slices_Index_int_int.l0])
  | succ k1 =>
   have H := HA.out
   clear HA
   simp only [slices_Index_int_int.l0] at H
   by_cases c3 : x8_1 < (l0.length : Int)
   ·rw [if_pos c3] at H
    have c3b0 : decide (x8_1 < (l0.length : Int)) = true := decide_eq_true c3
    clear c3
    by_cases c4 : 0 ≤ x8_1
    ·rw [if_pos c4] at H
     have c4b0 : decide (0 ≤ x8_1) = true := decide_eq_true c4
     clear c4
     by_cases c5 : x8_1 < (l0.length : Int)
     ·rw [if_pos c5] at H
      have c5b0 : decide (x8_1 < (l0.length : Int)) = true := decide_eq_true c5
      clear c5
      by_cases c6 : a1 = (rd l0 x8_1)
      ·rw [if_pos c6] at H
       have c6b0 : (a1 == (rd l0 x8_1)) = true := beq_iff_eq.mpr c6
       have c6b1 : (a1 != (rd l0 x8_1)) = false := bne_eq_false_iff_eq.mpr c6
       clear c6
       obtain rfl := Option.some.inj H
       have p226 : 0 ≤ (x8_1 : Int) := of_decide_eq_true (by first | (with_reducible assumption) | assumption)
       have q226 : x8_1 < (l0.length : Int) := of_decide_eq_true (by first | (with_reducible assumption) | assumption)
       obtain ⟨ad226, e226, hx226_0⟩ := Kd.at_int HR0.out x8_1 p226 q226
       cases e226
       replace p226 := eq_true p226
       replace q226 := eq_true q226
       go_wp2
       go_ret
       exact ⟨by first | rfl | (simp; done) | (simp [*]; done), by repeat (first | exact Drawn0.refl _ | apply Drawn0.step)⟩
      ·rw [if_neg c6] at H
       have c6b0 : (a1 == (rd l0 x8_1)) = false := beq_eq_false_iff_ne.mpr c6
       have c6b1 : (a1 != (rd l0 x8_1)) = true := bne_iff_ne.mpr c6
       have H' := Aside0.mk H
       clear H
       have p226 : 0 ≤ (x8_1 : Int) := of_decide_eq_true (by first | (with_reducible assumption) | assumption)
       have q226 : x8_1 < (l0.length : Int) := of_decide_eq_true (by first | (with_reducible assumption) | assumption)
       obtain ⟨ad226, e226, hx226_0⟩ := Kd.at_int HR0.out x8_1 p226 q226
       cases e226
       replace p226 := eq_true p226
       replace q226 := eq_true q226
       go_wp2
       go_roundg k1
       case measure => have := HK1.out; omega
       case rel => exact ⟨(wrap64 (x8_1 + 1)), kY, H', ⟨by have := HK1.out; omega⟩, by repeat (first | exact Drawn0.refl _ | apply Drawn0.step)⟩
     ·rw [if_neg c5] at H
      exact absurd H (by simp)
    ·rw [if_neg c4] at H
     exact absurd H (by simp)
   ·rw [if_neg c3] at H
    have c3b0 : decide (x8_1 < (l0.length : Int)) = false := decide_eq_false c3
    clear c3
    obtain rfl := Option.some.inj H
    go_wp2
    go_ret
    exact ⟨by first | rfl | (simp; done) | (simp [*]; done), by repeat (first | exact Drawn0.refl _ | apply Drawn0.step)⟩

/-! ### slices_Contains_int_int: function 37 -/
def slices_Contains_int_int.f (k : Nat) (l0 : List Int) (a1 : Int) : Option (Bool) := (slices_Index_int_int.f k l0 a1).bind fun t227 => (some (decide (t227 ≥ 0)))
set_option maxHeartbeats 8000000 in
set_option maxRecDepth 100000 in
theorem slices_Contains_int_int.calls (k : Nat) (A0 : Option Addr) (c0 : Nat) (l0 : List Int) (a1 : Int) (r : Bool) (w : World) (hr0 : Kd.C (Kd.int .i64) w A0 l0.length l0) (hc0 : l0.length ≤ c0) (h : slices_Contains_int_int.f k l0 a1 = some r) :
  Calls Tryz.prog 37 #[.slice A0 l0.length c0, .int .i64 a1] w fun e w' => e = .returned (.bool r) ∧ Drawn0 w w' := by
 have HR0 := Aside0.mk hr0
 have HC0 := Aside0.mk hc0
 clear hr0 hc0
 have H : ((slices_Index_int_int.f k l0 a1).bind fun t227 => (some (decide (t227 ≥ 0)))) = some r := h
 clear h
 replace H := Option.bind_eq_some_iff.mp H
 obtain ⟨t227, A30, H⟩ := H
 have A3 := Aside0.mk A30
 clear A30
 obtain rfl := Option.some.inj H
 go_enter Tryz.func37, Tryz.ntmps37
 go_wp2_with (first | ((with_reducible refine gate_callee (f := 67) rfl ?_); refine kE (some 7) Tryz.func67 #[.slice A0 l0.length c0, .int .i64 a1] rfl ?_; (with_reducible refine (slices_Index_int_int.calls k _ _ l0 a1 t227 _ ?side1 ?side2 A3.out).mono ?_); (case side1 => exact kD HR0); (case side2 => exact HC0.out); rintro e w' ⟨rfl, ⟨nd, rfl⟩⟩; refine ⟨_, rfl, ?_⟩))
 go_ret
 exact ⟨by first | rfl | (simp; done) | (simp [*]; done), by repeat (first | exact Drawn0.refl _ | apply Drawn0.step)⟩

end Go.Proofs.YtllihaahppelhaaGreat.P
namespace Go.Proofs.YtllihaahppelhaaGreat.P
open Go.RowKit Go.Proofs.YtllihaahppelhaaGreatW.PrintWords Go.Proofs.YtllihaahppelhaaGreatW.PrintLast Go.Proofs.YtllihaahppelhaaGreatW.PrintMore
attribute [local go_sem] max2_int min2_int max_two min_two max_three min_three max_four min_four   -- for this text's walks alone
set_option linter.unusedVariables false
set_option linter.unusedSimpArgs false

/-! ### impl_isParent: function 32 -/
def impl_isParent.f (k : Nat) (l0 : List (S41)) (a1 : Int) (a2 : Int) : Option (Bool) := if 0 ≤ a2 then (if a2 < (l0.length : Int) then ((impl_Kin_parents.f ((rd_T41 l0 a2).f0) ((rd_T41 l0 a2).f1) ((rd_T41 l0 a2).f2)).bind fun t229 => ((slices_Contains_int_int.f k t229 a1).bind fun t232 => (some t232))) else (none)) else (none)
set_option maxHeartbeats 8000000 in
set_option maxRecDepth 100000 in
theorem impl_isParent.calls (k : Nat) (A0 : Option Addr) (c0 : Nat) (l0 : List (S41)) (a1 : Int) (a2 : Int) (r : Bool) (w : World) (hr0 : Kd.C k41 w A0 l0.length l0) (hc0 : l0.length ≤ c0) (h : impl_isParent.f k l0 a1 a2 = some r) :
  Calls Tryz.prog 32 #[.slice A0 l0.length c0, .int .i64 a1, .int .i64 a2] w fun e w' => e = .returned (.bool r) ∧ Below w.heap.size w w' := by
 have hu41 := Tryz.underlying41
 have HR0 := Aside0.mk hr0
 have HC0 := Aside0.mk hc0
 clear hr0 hc0
 have HB := Aside0.mk (Below.refl w.heap.size w)
 have H : (if 0 ≤ a2 then (if a2 < (l0.length : Int) then ((impl_Kin_parents.f ((rd_T41 l0 a2).f0) ((rd_T41 l0 a2).f1) ((rd_T41 l0 a2).f2)).bind fun t229 => ((slices_Contains_int_int.f k t229 a1).bind fun t232 => (some t232))) else (none)) else (none)) = some r := h
 clear h
 by_cases c4 : 0 ≤ a2
 ·rw [if_pos c4] at H
  have c4b0 : decide (0 ≤ a2) = true := decide_eq_true c4
  clear c4
  by_cases c5 : a2 < (l0.length : Int)
  ·rw [if_pos c5] at H
   have c5b0 : decide (a2 < (l0.length : Int)) = true := decide_eq_true c5
   clear c5
   replace H := Option.bind_eq_some_iff.mp H
   obtain ⟨t229, A60, H⟩ := H
   have A6 := Aside0.mk A60
   clear A60
   replace H := Option.bind_eq_some_iff.mp H
   obtain ⟨t232, A70, H⟩ := H
   have A7 := Aside0.mk A70
   clear A70
   obtain rfl := Option.some.inj H
   have p228 : 0 ≤ (a2 : Int) := of_decide_eq_true (by first | (with_reducible assumption) | assumption)
   have q228 : a2 < (l0.length : Int) := of_decide_eq_true (by first | (with_reducible assumption) | assumption)
   obtain ⟨ad228, e228, hx228_0, hx228_1, hx228_2⟩ := at_T41 HR0.out a2 p228 q228
   cases e228
   replace p228 := eq_true p228
   replace q228 := eq_true q228
   go_enter Tryz.func32, Tryz.ntmps32
   go_wp2_with (first | ((with_reducible refine gate_callee (f := 49) rfl ?_); refine kE (some 11) Tryz.func49 #[.agg #[.int .i64 ((rd_T41 l0 a2).f0), .int .i64 ((rd_T41 l0 a2).f1), .int .i64 ((rd_T41 l0 a2).f2)]] rfl ?_; (with_reducible refine (impl_Kin_parents.calls ((rd_T41 l0 a2).f0) ((rd_T41 l0 a2).f1) ((rd_T41 l0 a2).f2) t229 _ A6.out).mono ?_); rintro e w8 ⟨v230, rfl, ho0, hb⟩; refine ⟨_, rfl, ?_⟩; have n0_ := Aside0.mk (Kd.R_lower ho0 (below_size kO)); have n1_ := kH HB hb; clear HB; have HO231 := n0_; have HB := n1_; clear n0_ n1_; (try clear hb); (try clear ho0); obtain ⟨Ao9, co9, eo9⟩ := Kd.R_slice HO231.out; subst eo9) | ((with_reducible refine gate_callee (f := 37) rfl ?_); refine kE (some 13) Tryz.func37 #[.slice Ao9 t229.length co9, .int .i64 a1] rfl ?_; (with_reducible refine (slices_Contains_int_int.calls k _ _ t229 a1 t232 _ ?side1 ?side2 A7.out).mono ?_); (case side1 => exact kDo HO231); (case side2 => exact (Kd.R_reads' HO231.out).2.1); rintro e w' ⟨rfl, ⟨nd, rfl⟩⟩; refine ⟨_, rfl, ?_⟩))
   go_ret
   exact ⟨kZ, kO⟩
  ·rw [if_neg c5] at H
   exact absurd H (by simp)
 ·rw [if_neg c4] at H
  exact absurd H (by simp)

end Go.Proofs.YtllihaahppelhaaGreat.P
namespace Go.Proofs.YtllihaahppelhaaGreat.P
open Go.RowKit Go.Proofs.YtllihaahppelhaaGreatW.PrintWords Go.Proofs.YtllihaahppelhaaGreatW.PrintLast Go.Proofs.YtllihaahppelhaaGreatW.PrintMore
attribute [local go_sem] max2_int min2_int max_two min_two max_three min_three max_four min_four   -- for this text's walks alone
set_option linter.unusedVariables false
set_option linter.unusedSimpArgs false

/-! ### slices_Clone_int_int: function 85, by hand -/
-- IMPORT Derived.Test.YtllihaahppelhaaGreatHlp
-- IMPORT Derived.WalkSpells
def slices_Clone_int_int.f (l0 : List Int) : Option (List Int) := if l0.length < 17592186044416 then some l0 else none
set_option maxHeartbeats 2000000 in
theorem slices_Clone_int_int.calls (A0 : Option Addr) (c0 : Nat) (l0 : List Int) (r : List Int) (w : World) (hr0 : Kd.C (Kd.int .i64) w A0 l0.length l0) (hc0 : l0.length ≤ c0) (h : slices_Clone_int_int.f l0 = some r) :
    Calls Tryz.prog 85 #[.slice A0 l0.length c0] w fun e w' => ∃ v0_ : Value, e = .returned v0_ ∧ Kd.R (Kd.int .i64) 3 w' w.heap.size (fun _ => True) v0_ r ∧ Below w.heap.size w w' := by
  have hlt : l0.length < 17592186044416 := by
    unfold slices_Clone_int_int.f at h
    split at h
    · assumption
    · cases h
  obtain rfl : l0 = r := by unfold slices_Clone_int_int.f at h; rw [if_pos hlt] at h; exact Option.some.inj h
  have qT : ∀ (w : World) (a : Option Addr) (n c n' c' : Nat), (binOp .eql 31 (.slice a n c) (.slice none n' c')).run Tryz.prog w = .ok (.bool a.isNone) w := fun w a n c n' c' => Lib.run_eql_slice_nil w _ _ a n c n' c' Tryz.underlying31
  rcases A0 with _ | ad
  · have h0 : l0.length = 0 := by
      rcases Nat.eq_zero_or_pos l0.length with h1 | h1
      · exact h1
      · obtain ⟨_, h2, _⟩ := hr0.2.2 h1
        cases h2
    obtain rfl : l0 = [] := List.eq_nil_of_length_eq_zero h0
    clear hr0 hlt h h0
    go_enter Tryz.func85, Tryz.ntmps85
    go_wp2
    go_ret
    exact ⟨_, rfl, Kd.R_nil _ _ _ _ _, Below.refl _ _⟩
  · have hr : ReadsInt (w.alloc (.cells #[] 3)) .i64 (some ad) l0.length l0 := ReadsInt.below (Kd.reads_of_C (enc := Value.int .i64) (d := (0 : Int)) (h1 := fun _ => rfl) hr0) (below_alloc (Below.refl _ _) _)
    have ho : (w.alloc (.cells #[] 3)).ownsRow w.heap.size 3 1 (.slice (some ⟨w.heap.size, 0, none⟩) 0 0) ([] : List Int).length (nums .i64 []) := by
      have := own_lit w w.heap.size 3 .i64 [] (Nat.le_refl _) (by simp)
      simpa [nums] using this
    have HR : Aside0 _ := ⟨hr⟩
    have HO : Aside0 _ := ⟨ho⟩
    have LM : Aside0 _ := ⟨hlt⟩
    clear hr ho hr0 h hlt
    go_enter Tryz.func85, Tryz.ntmps85
    go_wp2_with (at_builtin; refine print_append_row (w0 := w) w.heap.size rfl _ _ 31 3 .i64 8 rfl Tryz.underlying31 info3 (by decide) _ [] l0 _ _ _ rfl rfl HO.out HR.out ((Below.refl _ w).alloc (Nat.le_refl _) _) (by simp) (by have := LM.out; simp only [List.length_nil]; omega) ?_; intro v1 w1 hown1 hb1 _ _; have HO1 : Aside0 _ := ⟨hown1⟩; have HB1 : Aside0 _ := ⟨hb1⟩; clear hown1 hb1)
    go_ret
    have := HO1.out
    rw [List.nil_append] at this
    exact ⟨_, rfl, Kd.R_of_own this (fun _ _ => trivial), HB1.out⟩

end Go.Proofs.YtllihaahppelhaaGreat.P
namespace Go.Proofs.YtllihaahppelhaaGreat.P
open Go.RowKit Go.Proofs.YtllihaahppelhaaGreatW.PrintWords Go.Proofs.YtllihaahppelhaaGreatW.PrintLast Go.Proofs.YtllihaahppelhaaGreatW.PrintMore
attribute [local go_sem] max2_int min2_int max_two min_two max_three min_three max_four min_four   -- for this text's walks alone
set_option linter.unusedVariables false
set_option linter.unusedSimpArgs false

/-! ### impl_common: function 69, by hand -/
-- IMPORT Derived.Test.YtllihaahppelhaaGreatHlp
-- IMPORT Derived.Test.YtllihaahppelhaaGreatEv
def impl_common.f (l0 l1 : List Int) : Option (List Int) := if l0.length < 17592186044416 then some (l0.filter fun x => l1.contains x) else none
theorem impl_common.index (l : List Int) (x : Int) (hl : l.length ≤ 9223372036854775807) (n : Nat) : ∀ i : Nat, i ≤ l.length → l.length - i ≤ n →
    ∃ r : Int, Ev (fun k => slices_Index_int_int.l0 k l x (l.length : Int) (i : Int)) r ∧ decide (r ≥ 0) = (l.drop i).contains x := by
  induction n with
  | zero =>
    intro i h1 h2
    obtain rfl : i = l.length := by omega
    exact ⟨-1, Ev.step (f := fun k => _) (fun k => by rw [slices_Index_int_int.l0]) (E.ifn (by omega) E.now), by simp⟩
  | succ n ih =>
    intro i h1 h2
    by_cases hi : i < l.length
    · have hr : rd l (i : Int) = l[i] := by simp [rd, List.getD_eq_getElem?_getD, List.getElem?_eq_getElem hi]
      by_cases he : x = l[i]
      · refine ⟨(i : Int), Ev.step (f := fun k => _) (fun k => by rw [slices_Index_int_int.l0]) (E.ifp (by omega) (E.ifp (by omega) (E.ifp (by omega) (E.ifp (by rw [hr]; exact he) E.now)))), ?_⟩
        have h5 : (x == l[i]) = true := by simpa using he
        rw [List.drop_eq_getElem_cons hi, List.contains_cons, h5]
        simp
      · obtain ⟨r, h3, h4⟩ := ih (i + 1) (by omega) (by omega)
        refine ⟨r, Ev.step (f := fun k => _) (fun k => by rw [slices_Index_int_int.l0]) (E.ifp (by omega) (E.ifp (by omega) (E.ifp (by omega) (E.ifn (by rw [hr]; exact he) ?_)))), ?_⟩
        · rw [show wrap64 ((i : Int) + 1) = ((i + 1 : Nat) : Int) by unfold wrap64; omega]; exact h3
        · have h5 : (x == l[i]) = false := by simpa using he
          rw [List.drop_eq_getElem_cons hi, List.contains_cons, h5, Bool.false_or, h4]
    · obtain rfl : i = l.length := by omega
      exact ⟨-1, Ev.step (f := fun k => _) (fun k => by rw [slices_Index_int_int.l0]) (E.ifn (by omega) E.now), by simp⟩
theorem impl_common.contains (l : List Int) (x : Int) (hl : l.length ≤ 9223372036854775807) : ∃ k, slices_Contains_int_int.f k l x = some (l.contains x) := by
  obtain ⟨r, h1, h2⟩ := impl_common.index l x hl _ 0 (by omega) (Nat.le_refl _)
  obtain ⟨k, hk⟩ := h1.rounds
  refine ⟨k, ?_⟩
  unfold slices_Contains_int_int.f slices_Index_int_int.f
  have hk' : slices_Index_int_int.l0 k l x (l.length : Int) 0 = some r := hk
  rw [hk']
  simp only [Option.bind_some]
  rw [h2]; rfl
set_option maxHeartbeats 1000000 in
theorem impl_common.clo (A1 : Option Addr) (c1 : Nat) (l1 : List Int) (B : Nat) (x : Int) (W : World) (hB : W.cell? ⟨B, 0, none⟩ = some (.slice A1 l1.length c1)) (hr : Kd.C (Kd.int .i64) W A1 l1.length l1) (hc : l1.length ≤ c1) :
    Calls Tryz.prog 88 #[.int .i64 x, .pointer (some ⟨B, 0, none⟩)] W fun e w' => e = .returned (.bool (!l1.contains x)) ∧ Below W.heap.size W w' := by
  obtain ⟨k, hk⟩ := impl_common.contains l1 x (Hlp.C_len hr)
  have hcall := slices_Contains_int_int.calls k A1 c1 l1 x _ W hr hc hk
  generalize l1.contains x = b at hcall ⊢
  have HC : Aside0 _ := ⟨hcall⟩
  clear hcall hk hr
  go_enter Tryz.func88, Tryz.ntmps88
  go_wp2_with (go_at_call 37; refine HC.out.mono ?_; rintro e w' ⟨rfl, hd⟩)
  go_ret
  exact ⟨rfl, hd.below⟩
set_option maxHeartbeats 2000000 in
theorem impl_common.calls (A0 : Option Addr) (c0 : Nat) (l0 : List Int) (A1 : Option Addr) (c1 : Nat) (l1 : List Int) (r : List Int) (w : World) (hr0 : Kd.C (Kd.int .i64) w A0 l0.length l0) (hc0 : l0.length ≤ c0) (hr1 : Kd.C (Kd.int .i64) w A1 l1.length l1) (hc1 : l1.length ≤ c1) (h : impl_common.f l0 l1 = some r) :
    Calls Tryz.prog 69 #[.slice A0 l0.length c0, .slice A1 l1.length c1] w fun e w' => ∃ v0_ : Value, e = .returned v0_ ∧ Kd.R (Kd.int .i64) 3 w' w.heap.size (fun _ => True) v0_ r ∧ Below w.heap.size w w' := by
  have hlt : l0.length < 17592186044416 := by
    unfold impl_common.f at h
    split at h
    · assumption
    · cases h
  obtain rfl : l0.filter (fun x => l1.contains x) = r := by unfold impl_common.f at h; rw [if_pos hlt] at h; exact Option.some.inj h
  have eg : ∀ args w, (callFunc 88 args).run Tryz.prog w = .ok (.enter 88 args) w := enters_of Tryz.func88 (by kernel_rfl) rfl
  have hb1 : Below w.heap.size w (w.alloc (.cells #[.slice A1 l1.length c1] 31)) := (Below.refl _ w).alloc (Nat.le_refl _) _
  have hcl := slices_Clone_int_int.calls A0 c0 l0 l0 (w.alloc (.cells #[.slice A1 l1.length c1] 31)) (Kd.C_below hr0 hb1) hc0 (by unfold slices_Clone_int_int.f; rw [if_pos hlt])
  have hbox : (w.alloc (.cells #[.slice A1 l1.length c1] 31)).cell? ⟨w.heap.size, 0, none⟩ = some (.slice A1 l1.length c1) := by simp
  have hdel : ∀ (v : Value) (w1 : World), Kd.R (Kd.int .i64) 3 w1 (w.heap.size + 1) (fun _ => True) v l0 → Below (w.heap.size + 1) (w.alloc (.cells #[.slice A1 l1.length c1] 31)) w1 →
      Calls Tryz.prog 77 #[v, .func (.func 88) #[] #[.pointer (some ⟨w.heap.size, 0, none⟩)]] w1 fun e w' =>
        ∃ v' : Value, e = .returned v' ∧ w'.ownsRow w.heap.size 3 1 v' (l0.filter fun x => l1.contains x).length (nums .i64 (l0.filter fun x => l1.contains x)) ∧ Below w.heap.size w w' := by
    intro v w1 hR hb2
    have ho : w1.ownsRow (w.heap.size + 1) 3 1 v l0.length (nums .i64 l0) := Kd.own_of_R hR
    have hb3 : Below w.heap.size w w1 := hb1.trans (hb2.mono (by omega))
    have hin : ∀ W, w1.grownBy W v.ownBlock → Below (w.heap.size + 1) (w.alloc (.cells #[.slice A1 l1.length c1] 31)) W := fun W hg => hb2.grown hg (by have := hb2.size; simp at this; omega) (fun k hk => own_base ho k hk)
    refine (slices_DeleteFunc_int_int.row (fun x => !l1.contains x) 88 #[.pointer (some ⟨w.heap.size, 0, none⟩)] eg w.heap.size v l0 w1 (own_weaken ho (by omega)) (fun x _ W hg => ?_)).mono ?_
    · have hW := hin W hg
      have hW2 : Below w.heap.size w W := hb1.trans (hW.mono (by omega))
      exact impl_common.clo A1 c1 l1 w.heap.size x W ((hW.cell (p := ⟨w.heap.size, 0, none⟩) (by simp)).trans hbox) (Kd.C_below hr1 hW2) hc1
    · rintro e w' ⟨v', he, ho', hg⟩
      simp only [Bool.not_not] at ho'
      exact ⟨v', he, ho', hb1.trans ((hin w' hg).mono (by omega))⟩
  generalize l0.filter (fun x => l1.contains x) = r at hdel ⊢
  have HC : Aside0 _ := ⟨hcl⟩
  have HD : Aside0 _ := ⟨hdel⟩
  clear hcl hdel hbox hb1 hr0 hr1 h hlt
  go_enter Tryz.func69, Tryz.ntmps69
  go_wp2_with (first | (go_at_call 85; refine HC.out.mono ?_; rintro e w1 ⟨v1, rfl, hR, hb⟩; have HR : Aside0 _ := ⟨hR⟩; have HB : Aside0 _ := ⟨hb⟩; clear hR hb) | (go_at_call 77; refine (HD.out _ _ (by simpa using HR.out) (by simpa using HB.out)).mono ?_; rintro e w2 ⟨v2, rfl, hO, hb⟩; have HO : Aside0 _ := ⟨hO⟩; have HB2 : Aside0 _ := ⟨hb⟩; clear hO hb))
  go_ret
  exact ⟨_, rfl, Kd.R_of_own HO.out (fun _ _ => trivial), HB2.out⟩

end Go.Proofs.YtllihaahppelhaaGreat.P
namespace Go.Proofs.YtllihaahppelhaaGreat.P
open Go.RowKit Go.Proofs.YtllihaahppelhaaGreatW.PrintWords Go.Proofs.YtllihaahppelhaaGreatW.PrintLast Go.Proofs.YtllihaahppelhaaGreatW.PrintMore
attribute [local go_sem] max2_int min2_int max_two min_two max_three min_three max_four min_four   -- for this text's walks alone
set_option linter.unusedVariables false
set_option linter.unusedSimpArgs false

/-! ### impl_inCommon: function 43 -/
def impl_inCommon.f (l0 : List (S41)) (a1 : Int) (a2 : Int) : Option (Int) := if a1 = a2 then (some 0) else (if 0 ≤ a1 then (if a1 < (l0.length : Int) then ((impl_Kin_parents.f ((rd_T41 l0 a1).f0) ((rd_T41 l0 a1).f1) ((rd_T41 l0 a1).f2)).bind fun t234 => (if 0 ≤ a2 then (if a2 < (l0.length : Int) then ((impl_Kin_parents.f ((rd_T41 l0 a2).f0) ((rd_T41 l0 a2).f1) ((rd_T41 l0 a2).f2)).bind fun t238 => ((impl_common.f t234 t238).bind fun t241 => (some (t241.length : Int)))) else (none)) else (none))) else (none)) else (none))
def impl_inCommon.T3 : Bool × List (List Nat × List Nat) := (true, [([], []), ([], []), ([0, 1], [0, 1]), ([2], [2]), ([3], [3]), ([], []), ([], []), ([5, 6], [5, 6]), ([7], [7]), ([8, 4], [8]), ([4, 9, 9], [4, 9]), ([10], [10]), ([11, 10, 0, 1, 2, 3, 4, 5, 6, 7, 8, 9, 10, 11], [11])])
def impl_inCommon.B3 : List Nat := [0, 0, 3, 7, 15, 0, 0, 96, 224, 511, 1023, 2047, 4095]
theorem impl_inCommon.tab3 : rtab .any (opsOf Tryz.f43 3) = impl_inCommon.T3 := by kernel_rfl
theorem impl_inCommon.bits3 : waitsOk impl_inCommon.T3.2 impl_inCommon.B3 = true := by kernel_rfl
set_option maxHeartbeats 8000000 in
set_option maxRecDepth 100000 in
theorem impl_inCommon.calls (A0 : Option Addr) (c0 : Nat) (l0 : List (S41)) (a1 : Int) (a2 : Int) (r : Int) (w : World) (hr0 : Kd.C k41 w A0 l0.length l0) (hc0 : l0.length ≤ c0) (h : impl_inCommon.f l0 a1 a2 = some r) :
  Calls Tryz.prog 43 #[.slice A0 l0.length c0, .int .i64 a1, .int .i64 a2] w fun e w' => e = .returned (.int .i64 r) ∧ Below w.heap.size w w' := by
 have hu41 := Tryz.underlying41
 have HR0 := Aside0.mk hr0
 have HC0 := Aside0.mk hc0
 clear hr0 hc0
 have HB := Aside0.mk (Below.refl w.heap.size w)
 have H : (if a1 = a2 then (some 0) else (if 0 ≤ a1 then (if a1 < (l0.length : Int) then ((impl_Kin_parents.f ((rd_T41 l0 a1).f0) ((rd_T41 l0 a1).f1) ((rd_T41 l0 a1).f2)).bind fun t234 => (if 0 ≤ a2 then (if a2 < (l0.length : Int) then ((impl_Kin_parents.f ((rd_T41 l0 a2).f0) ((rd_T41 l0 a2).f1) ((rd_T41 l0 a2).f2)).bind fun t238 => ((impl_common.f t234 t238).bind fun t241 => (some (t241.length : Int)))) else (none)) else (none))) else (none)) else (none))) = some r := h
 clear h
 by_cases c4 : a1 = a2
 ·rw [if_pos c4] at H
  have c4b0 : (a1 == a2) = true := beq_iff_eq.mpr c4
  have c4b1 : (a1 != a2) = false := bne_eq_false_iff_eq.mpr c4
  clear c4
  obtain rfl := Option.some.inj H
  go_enter Tryz.func43, Tryz.ntmps43
  go_wp2
  go_ret
  exact ⟨kZ, kO⟩
 ·rw [if_neg c4] at H
  have c4b0 : (a1 == a2) = false := beq_eq_false_iff_ne.mpr c4
  have c4b1 : (a1 != a2) = true := bne_iff_ne.mpr c4
  by_cases c5 : 0 ≤ a1
  ·rw [if_pos c5] at H
   have c5b0 : decide (0 ≤ a1) = true := decide_eq_true c5
   clear c5
   by_cases c6 : a1 < (l0.length : Int)
   ·rw [if_pos c6] at H
    have c6b0 : decide (a1 < (l0.length : Int)) = true := decide_eq_true c6
    clear c6
    replace H := Option.bind_eq_some_iff.mp H
    obtain ⟨t234, A70, H⟩ := H
    have A7 := Aside0.mk A70
    clear A70
    by_cases c8 : 0 ≤ a2
    ·rw [if_pos c8] at H
     have c8b0 : decide (0 ≤ a2) = true := decide_eq_true c8
     clear c8
     by_cases c9 : a2 < (l0.length : Int)
     ·rw [if_pos c9] at H
      have c9b0 : decide (a2 < (l0.length : Int)) = true := decide_eq_true c9
      clear c9
      replace H := Option.bind_eq_some_iff.mp H
      obtain ⟨t238, A100, H⟩ := H
      have A10 := Aside0.mk A100
      clear A100
      replace H := Option.bind_eq_some_iff.mp H
      obtain ⟨t241, A110, H⟩ := H
      have A11 := Aside0.mk A110
      clear A110
      obtain rfl := Option.some.inj H
      go_enter Tryz.func43, Tryz.ntmps43
      try go_wp2
      have n0_ := Aside0.mk (below_drew1 HB.out)
      clear HB
      have HB := n0_
      clear n0_
      have p233 : 0 ≤ (a1 : Int) := of_decide_eq_true (by first | (with_reducible assumption) | assumption)
      have q233 : a1 < (l0.length : Int) := of_decide_eq_true (by first | (with_reducible assumption) | assumption)
      obtain ⟨ad233, e233, hx233_0, hx233_1, hx233_2⟩ := at_T41 HR0.out a1 p233 q233
      have hw233_2 := hx233_2
      have hw233_1 := hx233_1
      have hw233_0 := hx233_0
      cases e233
      replace hx233_0 := (HB.out.cell (World.block_lt_of_cell? w _ hx233_0)).trans hx233_0
      replace hx233_1 := (HB.out.cell (World.block_lt_of_cell? w _ hx233_1)).trans hx233_1
      replace hx233_2 := (HB.out.cell (World.block_lt_of_cell? w _ hx233_2)).trans hx233_2
      replace p233 := eq_true p233
      replace q233 := eq_true q233
      have p237 : 0 ≤ (a2 : Int) := of_decide_eq_true (by first | (with_reducible assumption) | assumption)
      have q237 : a2 < (l0.length : Int) := of_decide_eq_true (by first | (with_reducible assumption) | assumption)
      obtain ⟨ad237, e237, hx237_0, hx237_1, hx237_2⟩ := at_T41 HR0.out a2 p237 q237
      have hw237_2 := hx237_2
      have hw237_1 := hx237_1
      have hw237_0 := hx237_0
      obtain rfl : ad233 = ad237 := (by injection e237)
      replace hx237_0 := (HB.out.cell (World.block_lt_of_cell? w _ hx237_0)).trans hx237_0
      replace hx237_1 := (HB.out.cell (World.block_lt_of_cell? w _ hx237_1)).trans hx237_1
      replace hx237_2 := (HB.out.cell (World.block_lt_of_cell? w _ hx237_2)).trans hx237_2
      replace p237 := eq_true p237
      replace q237 := eq_true q237
      refine start_ (n := 13) (S := fun w' => w'.cell? (ad233.add ((a1).toNat * 3)) = some (.int .i64 ((rd_T41 l0 a1).f0)) ∧ w'.cell? ⟨(ad233.add ((a1).toNat * 3)).block, (ad233.add ((a1).toNat * 3)).off + 1, none⟩ = some (.int .i64 ((rd_T41 l0 a1).f1)) ∧ w'.cell? ⟨(ad233.add ((a1).toNat * 3)).block, (ad233.add ((a1).toNat * 3)).off + 2, none⟩ = some (.int .i64 ((rd_T41 l0 a1).f2)) ∧ w'.cell? (ad233.add ((a2).toNat * 3)) = some (.int .i64 ((rd_T41 l0 a2).f0)) ∧ w'.cell? ⟨(ad233.add ((a2).toNat * 3)).block, (ad233.add ((a2).toNat * 3)).off + 1, none⟩ = some (.int .i64 ((rd_T41 l0 a2).f1)) ∧ w'.cell? ⟨(ad233.add ((a2).toNat * 3)).block, (ad233.add ((a2).toNat * 3)).off + 2, none⟩ = some (.int .i64 ((rd_T41 l0 a2).f2))) (ds := []) #[false, false, false, false, false, false, false, false, false, false, false, false, false] (by kernel_rfl) rfl rfl ⟨((HB.out.cell (World.block_lt_of_cell? w _ hw233_0)).trans hw233_0), ((HB.out.cell (World.block_lt_of_cell? w _ hw233_1)).trans hw233_1), ((HB.out.cell (World.block_lt_of_cell? w _ hw233_2)).trans hw233_2), ((HB.out.cell (World.block_lt_of_cell? w _ hw237_0)).trans hw237_0), ((HB.out.cell (World.block_lt_of_cell? w _ hw237_1)).trans hw237_1), ((HB.out.cell (World.block_lt_of_cell? w _ hw237_2)).trans hw237_2)⟩ (fun hHeld => ?_); refine with_tabW impl_inCommon.tab3 impl_inCommon.bits3 (fun HT_ HW_ => ?_)
      generalize w.drew = w12 at HB hx233_0 hx233_1 hx233_2 hx237_0 hx237_1 hx237_2 hHeld ⊢
      refine pure_ (i := 0) (N := some 10) (v := ?_) (a' := ?_) #[true, false, false, false, false, false, false, false, false, false, false, false, false] rfl rfl (any_of HT_.out (by kernel_rfl)) (fun _ _ _ h => h) (Or.inl ⟨by rfl, ?_⟩) ?_ ?_
      rotate_left
      ·intro w'
       go_simp
       with_reducible rfl
      rotate_left
      ·simp only [Act.put, List.setIfInBounds_toArray, List.set_cons_zero, List.set_cons_succ, i64_w, i32_w]
       rfl
      refine pure_ (i := 1) (N := some 11) (v := ?_) (a' := ?_) #[true, true, false, false, false, false, false, false, false, false, false, false, false] rfl rfl (any_of HT_.out (by kernel_rfl)) (fun _ _ _ h => h) (Or.inl ⟨by rfl, ?_⟩) ?_ ?_
      rotate_left
      ·intro w'
       go_simp
       with_reducible rfl
      rotate_left
      ·simp only [Act.put, List.setIfInBounds_toArray, List.set_cons_zero, List.set_cons_succ, i64_w, i32_w]
       rfl
      refine pure_ (i := 2) (N := some 12) (v := ?_) (a' := ?_) #[true, true, true, false, false, false, false, false, false, false, false, false, false] rfl rfl (any_of HT_.out (by kernel_rfl)) (fun _ _ _ h => h) (Or.inl ⟨by rfl, ?_⟩) ?_ ?_
      rotate_left
      ·intro w'
       go_simp
       with_reducible rfl
      rotate_left
      ·simp only [Act.put, List.setIfInBounds_toArray, List.set_cons_zero, List.set_cons_succ, i64_w, i32_w]
       rfl
      refine pure_ (i := 5) (N := some 15) (v := ?_) (a' := ?_) #[true, true, true, false, false, true, false, false, false, false, false, false, false] rfl rfl (any_of HT_.out (by kernel_rfl)) (fun _ _ _ h => h) (Or.inl ⟨by rfl, ?_⟩) ?_ ?_
      rotate_left
      ·intro w'
       go_simp
       with_reducible rfl
      rotate_left
      ·simp only [Act.put, List.setIfInBounds_toArray, List.set_cons_zero, List.set_cons_succ, i64_w, i32_w]
       rfl
      refine pure_ (i := 6) (N := some 16) (v := ?_) (a' := ?_) #[true, true, true, false, false, true, true, false, false, false, false, false, false] rfl rfl (any_of HT_.out (by kernel_rfl)) (fun _ _ _ h => h) (Or.inl ⟨by rfl, ?_⟩) ?_ ?_
      rotate_left
      ·intro w'
       go_simp
       with_reducible rfl
      rotate_left
      ·simp only [Act.put, List.setIfInBounds_toArray, List.set_cons_zero, List.set_cons_succ, i64_w, i32_w]
       rfl
      refine pure_ (i := 7) (N := some 17) (v := ?_) (a' := ?_) #[true, true, true, false, false, true, true, true, false, false, false, false, false] rfl rfl (any_of HT_.out (by kernel_rfl)) (fun _ _ _ h => h) (Or.inl ⟨by rfl, ?_⟩) ?_ ?_
      rotate_left
      ·intro w'
       go_simp
       with_reducible rfl
      rotate_left
      ·simp only [Act.put, List.setIfInBounds_toArray, List.set_cons_zero, List.set_cons_succ, i64_w, i32_w]
       rfl
      refine take_ (i := 3) (N := some 13) (v := ?_) (a' := ?_) #[true, true, true, true, false, true, true, true, false, false, false, false, false] rfl rfl (take_ofW HT_.out HW_.out (by kernel_rfl)) (fun _ _ _ h => h) (Or.inl ⟨by rfl, ?_⟩) hHeld ?_ ?_
      rotate_left
      ·rintro w' ⟨s0, s1, s2, s3, s4, s5⟩
       go_simp
       with_reducible rfl
      rotate_left
      ·simp only [Act.put, List.setIfInBounds_toArray, List.set_cons_zero, List.set_cons_succ, i64_w, i32_w]
       rfl
      refine take_ (i := 8) (N := some 18) (v := ?_) (a' := ?_) #[true, true, true, true, false, true, true, true, true, false, false, false, false] rfl rfl (take_ofW HT_.out HW_.out (by kernel_rfl)) (fun _ _ _ h => h) (Or.inl ⟨by rfl, ?_⟩) hHeld ?_ ?_
      rotate_left
      ·rintro w' ⟨s0, s1, s2, s3, s4, s5⟩
       go_simp
       with_reducible rfl
      rotate_left
      ·simp only [Act.put, List.setIfInBounds_toArray, List.set_cons_zero, List.set_cons_succ, i64_w, i32_w]
       rfl
      refine one_ (i := 4) (N := some 14) #[true, true, true, true, true, true, true, true, true, false, false, false, false] rfl rfl (one_of HT_.out (by kernel_rfl)) (by decide) (fun K hK => ?_)
      refine goes_ Tryz.func49 (by kernel_rfl) rfl #[.agg #[.int .i64 ((rd_T41 l0 a1).f0), .int .i64 ((rd_T41 l0 a1).f1), .int .i64 ((rd_T41 l0 a1).f2)]] (by rfl) rfl rfl (by (try simp only [List.map_toArray, List.map_cons, List.map_nil]); first | done | rfl | (simp only [List.length_drop, List.length_take]; rfl)) ?_
      with_reducible refine (impl_Kin_parents.calls ((rd_T41 l0 a1).f0) ((rd_T41 l0 a1).f1) ((rd_T41 l0 a1).f2) t234 _ A7.out).mono ?_
      rintro e w13 ⟨v235, rfl, ho0, hb⟩
      refine ⟨_, rfl, ?_⟩
      have n0_ := Aside0.mk (Kd.R_lower ho0 (below_size kO))
      have n1_ := kH HB hb
      clear HB
      have HO236 := n0_
      have HB := n1_
      clear n0_ n1_
      refine hK.out _ _ ⟨((HB.out.cell (World.block_lt_of_cell? w _ hw233_0)).trans hw233_0), ((HB.out.cell (World.block_lt_of_cell? w _ hw233_1)).trans hw233_1), ((HB.out.cell (World.block_lt_of_cell? w _ hw233_2)).trans hw233_2), ((HB.out.cell (World.block_lt_of_cell? w _ hw237_0)).trans hw237_0), ((HB.out.cell (World.block_lt_of_cell? w _ hw237_1)).trans hw237_1), ((HB.out.cell (World.block_lt_of_cell? w _ hw237_2)).trans hw237_2)⟩ (fun hHeld => ?_)
      clear hK K
      refine norm_ (a' := ?_) ?_ ?_
      rotate_left
      ·show Act.put _ (some 14) _ = _
       simp only [Act.put, List.setIfInBounds_toArray, List.set_cons_zero, List.set_cons_succ, i64_w, i32_w]
       rfl
      refine one_ (i := 9) (N := some 19) #[true, true, true, true, true, true, true, true, true, true, false, false, false] rfl rfl (one_of HT_.out (by kernel_rfl)) (by decide) (fun K hK => ?_)
      refine goes_ Tryz.func49 (by kernel_rfl) rfl #[.agg #[.int .i64 ((rd_T41 l0 a2).f0), .int .i64 ((rd_T41 l0 a2).f1), .int .i64 ((rd_T41 l0 a2).f2)]] (by rfl) rfl rfl (by (try simp only [List.map_toArray, List.map_cons, List.map_nil]); first | done | rfl | (simp only [List.length_drop, List.length_take]; rfl)) ?_
      with_reducible refine (impl_Kin_parents.calls ((rd_T41 l0 a2).f0) ((rd_T41 l0 a2).f1) ((rd_T41 l0 a2).f2) t238 _ A10.out).mono ?_
      rintro e w14 ⟨v239, rfl, ho0, hb⟩
      refine ⟨_, rfl, ?_⟩
      have n0_ := Aside0.mk (Kd.R_elder' (kW HO236) (Kd.R_base ho0) hb)
      have n1_ := Aside0.mk (Kd.R_lower (Kd.R_new' ho0 (Kd.R_lt (kW HO236))) (below_size kO))
      have n2_ := kH HB hb
      clear HO236
      clear HB
      have HO236 := n0_
      have HO240 := n1_
      have HB := n2_
      clear n0_ n1_ n2_
      obtain ⟨Ao15, co15, eo15⟩ := Kd.R_slice HO236.out
      (first | subst eo15 | (injection eo15 with f1_ f2_ f3_; have f4_ := f1_.symm; have f5_ := f3_.symm; clear f1_ f2_ f3_; subst f4_; subst f5_))
      obtain ⟨Ao16, co16, eo16⟩ := Kd.R_slice HO240.out
      (first | subst eo16 | (injection eo16 with f1_ f2_ f3_; have f4_ := f1_.symm; have f5_ := f3_.symm; clear f1_ f2_ f3_; subst f4_; subst f5_))
      refine hK.out _ _ ⟨((HB.out.cell (World.block_lt_of_cell? w _ hw233_0)).trans hw233_0), ((HB.out.cell (World.block_lt_of_cell? w _ hw233_1)).trans hw233_1), ((HB.out.cell (World.block_lt_of_cell? w _ hw233_2)).trans hw233_2), ((HB.out.cell (World.block_lt_of_cell? w _ hw237_0)).trans hw237_0), ((HB.out.cell (World.block_lt_of_cell? w _ hw237_1)).trans hw237_1), ((HB.out.cell (World.block_lt_of_cell? w _ hw237_2)).trans hw237_2)⟩ (fun hHeld => ?_)
      clear hK K
      refine norm_ (a' := ?_) ?_ ?_
      rotate_left
      ·show Act.put _ (some 19) _ = _
       simp only [Act.put, List.setIfInBounds_toArray, List.set_cons_zero, List.set_cons_succ, i64_w, i32_w]
       rfl
      refine one_ (i := 10) (N := some 20) #[true, true, true, true, true, true, true, true, true, true, true, false, false] rfl rfl (one_of HT_.out (by kernel_rfl)) (by decide) (fun K hK => ?_)
      refine goes_ Tryz.func69 (by kernel_rfl) rfl #[.slice Ao15 t234.length co15, .slice Ao16 t238.length co16] (by rfl) rfl rfl (by (try simp only [List.map_toArray, List.map_cons, List.map_nil]); first | done | rfl | (simp only [List.length_drop, List.length_take]; rfl)) ?_
      with_reducible refine (impl_common.calls _ _ t234 _ _ t238 t241 _ ?side1 ?side2 ?side3 ?side4 A11.out).mono ?_
      (case side1 => exact kDo HO236)
      (case side2 => exact (Kd.R_reads' HO236.out).2.1)
      (case side3 => exact kDo HO240)
      (case side4 => exact (Kd.R_reads' HO240.out).2.1)
      rintro e w17 ⟨v242, rfl, ho0, hb⟩
      refine ⟨_, rfl, ?_⟩
      have n0_ := Aside0.mk (Kd.R_elder' (kW HO236) (Kd.R_base ho0) hb)
      have n1_ := Aside0.mk (Kd.R_elder' (kW HO240) (Kd.R_base ho0) hb)
      have n2_ := Aside0.mk (Kd.R_lower (Kd.R_new' (Kd.R_new' ho0 (Kd.R_lt (kW HO236))) (Kd.R_lt (kW HO240))) (below_size kO))
      have n3_ := kH HB hb
      clear HO236
      clear HO240
      clear HB
      have HO236 := n0_
      have HO240 := n1_
      have HO243 := n2_
      have HB := n3_
      clear n0_ n1_ n2_ n3_
      obtain ⟨Ao18, co18, eo18⟩ := Kd.R_slice HO243.out
      (first | subst eo18 | (injection eo18 with f1_ f2_ f3_; have f4_ := f1_.symm; have f5_ := f3_.symm; clear f1_ f2_ f3_; subst f4_; subst f5_))
      refine hK.out _ _ ⟨((HB.out.cell (World.block_lt_of_cell? w _ hw233_0)).trans hw233_0), ((HB.out.cell (World.block_lt_of_cell? w _ hw233_1)).trans hw233_1), ((HB.out.cell (World.block_lt_of_cell? w _ hw233_2)).trans hw233_2), ((HB.out.cell (World.block_lt_of_cell? w _ hw237_0)).trans hw237_0), ((HB.out.cell (World.block_lt_of_cell? w _ hw237_1)).trans hw237_1), ((HB.out.cell (World.block_lt_of_cell? w _ hw237_2)).trans hw237_2)⟩ (fun hHeld => ?_)
      clear hK K
      refine norm_ (a' := ?_) ?_ ?_
      rotate_left
      ·show Act.put _ (some 20) _ = _
       simp only [Act.put, List.setIfInBounds_toArray, List.set_cons_zero, List.set_cons_succ, i64_w, i32_w]
       rfl
      refine pure_ (i := 11) (N := some 21) (v := ?_) (a' := ?_) #[true, true, true, true, true, true, true, true, true, true, true, true, false] rfl rfl (any_of HT_.out (by kernel_rfl)) (fun _ _ _ h => h) (Or.inl ⟨by rfl, ?_⟩) ?_ ?_
      rotate_left
      ·intro w'
       go_simp
       with_reducible rfl
      rotate_left
      ·simp only [Act.put, List.setIfInBounds_toArray, List.set_cons_zero, List.set_cons_succ, i64_w, i32_w]
       rfl
      refine pure_ (i := 12) (N := some 6) (v := ?_) (a' := ?_) #[true, true, true, true, true, true, true, true, true, true, true, true, true] rfl rfl (any_of HT_.out (by kernel_rfl)) (fun _ _ _ h => h) (Or.inl ⟨by rfl, ?_⟩) ?_ ?_
      rotate_left
      ·intro w'
       go_simp
       with_reducible rfl
      rotate_left
      ·simp only [Act.put, List.setIfInBounds_toArray, List.set_cons_zero, List.set_cons_succ, i64_w, i32_w]
       rfl
      refine done_ (done_of HT_.out (by kernel_rfl)) ?_
      try go_wp2
      go_ret
      exact ⟨kZ, kO⟩
     ·rw [if_neg c9] at H
      exact absurd H (by simp)
    ·rw [if_neg c8] at H
     exact absurd H (by simp)
   ·rw [if_neg c6] at H
    exact absurd H (by simp)
  ·rw [if_neg c5] at H
   exact absurd H (by simp)

end Go.Proofs.YtllihaahppelhaaGreat.P
namespace Go.Proofs.YtllihaahppelhaaGreat.P
open Go.RowKit Go.Proofs.YtllihaahppelhaaGreatW.PrintWords Go.Proofs.YtllihaahppelhaaGreatW.PrintLast Go.Proofs.YtllihaahppelhaaGreatW.PrintMore
attribute [local go_sem] max2_int min2_int max_two min_two max_three min_three max_four min_four   -- for this text's walks alone
set_option linter.unusedVariables false
set_option linter.unusedSimpArgs false

/-! ### impl_areSiblings: function 33 -/
def impl_areSiblings.f (l0 : List (S41)) (a1 : Int) (a2 : Int) : Option (Bool) := (impl_inCommon.f l0 a1 a2).bind fun t244 => (some (decide (t244 > 0)))
set_option maxHeartbeats 8000000 in
set_option maxRecDepth 100000 in
theorem impl_areSiblings.calls (A0 : Option Addr) (c0 : Nat) (l0 : List (S41)) (a1 : Int) (a2 : Int) (r : Bool) (w : World) (hr0 : Kd.C k41 w A0 l0.length l0) (hc0 : l0.length ≤ c0) (h : impl_areSiblings.f l0 a1 a2 = some r) :
  Calls Tryz.prog 33 #[.slice A0 l0.length c0, .int .i64 a1, .int .i64 a2] w fun e w' => e = .returned (.bool r) ∧ Below w.heap.size w w' := by
 have HR0 := Aside0.mk hr0
 have HC0 := Aside0.mk hc0
 clear hr0 hc0
 have HB := Aside0.mk (Below.refl w.heap.size w)
 have H : ((impl_inCommon.f l0 a1 a2).bind fun t244 => (some (decide (t244 > 0)))) = some r := h
 clear h
 replace H := Option.bind_eq_some_iff.mp H
 obtain ⟨t244, A40, H⟩ := H
 have A4 := Aside0.mk A40
 clear A40
 obtain rfl := Option.some.inj H
 go_enter Tryz.func33, Tryz.ntmps33
 go_wp2_with (first | ((with_reducible refine gate_callee (f := 43) rfl ?_); refine kE (some 10) Tryz.func43 #[.slice A0 l0.length c0, .int .i64 a1, .int .i64 a2] rfl ?_; (with_reducible refine (impl_inCommon.calls _ _ l0 a1 a2 t244 _ ?side1 ?side2 A4.out).mono ?_); (case side1 => exact kD HR0); (case side2 => exact HC0.out); rintro e w5 ⟨rfl, hb⟩; refine ⟨_, rfl, ?_⟩; replace HB := kH HB hb; (try clear hb)))
 go_ret
 exact ⟨kZ, kO⟩

-- NOT PRINTED: function 64 (impl_isGrand_1)

end Go.Proofs.YtllihaahppelhaaGreat.P
namespace Go.Proofs.YtllihaahppelhaaGreat.P
open Go.RowKit Go.Proofs.YtllihaahppelhaaGreatW.PrintWords Go.Proofs.YtllihaahppelhaaGreatW.PrintLast Go.Proofs.YtllihaahppelhaaGreatW.PrintMore
attribute [local go_sem] max2_int min2_int max_two min_two max_three min_three max_four min_four   -- for this text's walks alone
set_option linter.unusedVariables false
set_option linter.unusedSimpArgs false

/-! ### impl_isAunt: function 35, by hand -/
-- IMPORT Derived.Test.YtllihaahppelhaaGreatHlp
def impl_isAunt.ps (l0 : List S41) (i : Int) : List Int := [(rd_T41 l0 i).f1, (rd_T41 l0 i).f2].filter fun x => !decide (x < 0)
def impl_isAunt.f (l0 : List S41) (a1 a2 : Int) : Option Bool :=
  if 0 ≤ a2 ∧ a2 < (l0.length : Int) then (if (impl_isAunt.ps l0 a2).all (fun p => (impl_areSiblings.f l0 a1 p).isSome) = true then some ((impl_isAunt.ps l0 a2).any fun p => (impl_areSiblings.f l0 a1 p).getD false) else none) else none
set_option maxHeartbeats 2000000 in
theorem impl_isAunt.clo (A0 : Option Addr) (c0 : Nat) (l0 : List S41) (a1 p : Int) (b : Bool) (B1 B2 : Nat) (W : World) (h1 : W.cell? ⟨B1, 0, none⟩ = some (.slice A0 l0.length c0)) (h2 : W.cell? ⟨B2, 0, none⟩ = some (.int .i64 a1)) (hr0 : Kd.C k41 W A0 l0.length l0) (hc0 : l0.length ≤ c0) (hs : impl_areSiblings.f l0 a1 p = some b) :
    Calls Tryz.prog 65 #[.int .i64 p, .pointer (some ⟨B1, 0, none⟩), .pointer (some ⟨B2, 0, none⟩)] W fun e w' => e = .returned (.bool b) ∧ Below W.heap.size W w' := by
  have hcall := impl_areSiblings.calls A0 c0 l0 a1 p b W hr0 hc0 hs
  have HC : Aside0 _ := ⟨hcall⟩
  clear hcall hr0 hs
  go_enter Tryz.func65, Tryz.ntmps65
  go_wp2_with (go_at_call 33; refine HC.out.mono ?_; rintro e w' ⟨rfl, hb⟩)
  go_ret
  exact ⟨rfl, hb⟩
set_option maxHeartbeats 4000000 in
theorem impl_isAunt.calls (A0 : Option Addr) (c0 : Nat) (l0 : List S41) (a1 a2 : Int) (r : Bool) (w : World) (hr0 : Kd.C k41 w A0 l0.length l0) (hc0 : l0.length ≤ c0) (h : impl_isAunt.f l0 a1 a2 = some r) :
    Calls Tryz.prog 35 #[.slice A0 l0.length c0, .int .i64 a1, .int .i64 a2] w fun e w' => e = .returned (.bool r) ∧ Below w.heap.size w w' := by
  unfold impl_isAunt.f at h
  have hi : 0 ≤ a2 ∧ a2 < (l0.length : Int) := by
    split at h
    · assumption
    · cases h
  rw [if_pos hi] at h
  have hall : (impl_isAunt.ps l0 a2).all (fun p => (impl_areSiblings.f l0 a1 p).isSome) = true := by
    split at h
    · assumption
    · cases h
  rw [if_pos hall] at h
  obtain rfl := Option.some.inj h
  clear h
  have eg : ∀ args w, (callFunc 65 args).run Tryz.prog w = .ok (.enter 65 args) w := enters_of Tryz.func65 (by kernel_rfl) rfl
  have hb1 : Below w.heap.size w ((w.alloc (.cells #[.slice A0 l0.length c0] 24)).alloc (.cells #[.int .i64 a1] 3)) := ((Below.refl _ w).alloc (Nat.le_refl _) _).alloc (by simp) _
  have hrw : Kd.C k41 ((w.alloc (.cells #[.slice A0 l0.length c0] 24)).alloc (.cells #[.int .i64 a1] 3)) A0 l0.length l0 := Kd.C_below hr0 hb1
  obtain ⟨m, rfl⟩ := Int.eq_ofNat_of_zero_le hi.1
  have hm : m < l0.length := by omega
  obtain ⟨ad, rfl, g0, g1, g2⟩ := at_T41 hrw (m : Int) hi.1 hi.2
  rw [Int.toNat_natCast] at g0 g1 g2
  have hlen := Hlp.C_len hr0
  have hpar := fun W => impl_Kin_parents.calls (rd_T41 l0 (m : Int)).f0 (rd_T41 l0 (m : Int)).f1 (rd_T41 l0 (m : Int)).f2 (impl_isAunt.ps l0 (m : Int)) W rfl
  have hcf : ∀ (v : Value) (w1 : World), Kd.R (Kd.int .i64) 3 w1 (w.heap.size + 1 + 1) (fun _ => True) v (impl_isAunt.ps l0 (m : Int)) → Below (w.heap.size + 1 + 1) ((w.alloc (.cells #[.slice (some ad) l0.length c0] 24)).alloc (.cells #[.int .i64 a1] 3)) w1 →
      Calls Tryz.prog 63 #[v, .func (.func 65) #[] #[.pointer (some ⟨w.heap.size, 0, none⟩), .pointer (some ⟨w.heap.size + 1, 0, none⟩)]] w1 fun e w' =>
        e = .returned (.bool ((impl_isAunt.ps l0 (m : Int)).any fun p => (impl_areSiblings.f l0 a1 p).getD false)) ∧ Below w.heap.size w w' := by
    intro v w1 hR hb2
    obtain ⟨A, c, rfl, hlc, hC⟩ := Kd.R_reads hR
    have hb3 : Below w.heap.size w w1 := hb1.trans (hb2.mono (by omega))
    refine (slices_ContainsFunc_int_int.any (fun p => (impl_areSiblings.f l0 a1 p).getD false) 65 _ eg A c _ w1 hC (fun x hx W hW => ?_)).mono ?_
    · have hb4 : Below (w.heap.size + 1 + 1) ((w.alloc (.cells #[.slice (some ad) l0.length c0] 24)).alloc (.cells #[.int .i64 a1] 3)) W := below_then hb2 (by have := hb2.size; simpa using this) hW
      have hs := List.all_eq_true.1 hall x hx
      obtain ⟨b, hb⟩ := Option.isSome_iff_exists.1 hs
      rw [hb]
      refine impl_isAunt.clo (some ad) c0 l0 a1 x b w.heap.size (w.heap.size + 1) W ((hb4.cell (p := ⟨w.heap.size, 0, none⟩) (by simp; omega)).trans (by simp)) ((hb4.cell (p := ⟨w.heap.size + 1, 0, none⟩) (by simp)).trans (by simp)) (Kd.C_below hr0 (hb1.trans (hb4.mono (by omega)))) hc0 hb
    · rintro e w' ⟨he, hb⟩
      exact ⟨he, below_then hb3 (by have := hb3.size; exact this) hb⟩
  generalize ((impl_isAunt.ps l0 (m : Int)).any fun p => (impl_areSiblings.f l0 a1 p).getD false) = r at hcf ⊢
  generalize impl_isAunt.ps l0 (m : Int) = ps at hcf hpar
  have HP : Aside0 _ := ⟨hpar⟩
  have HD : Aside0 _ := ⟨hcf⟩
  generalize (rd_T41 l0 (m : Int)).f0 = x0 at g0 HP
  generalize (rd_T41 l0 (m : Int)).f1 = x1 at g1 HP
  generalize (rd_T41 l0 (m : Int)).f2 = x2 at g2 HP
  clear hpar hcf hall hb1 hr0 hrw hi
  go_enter Tryz.func35, Tryz.ntmps35
  go_wp2_with (first | (go_at_call 49; refine (HP.out _).mono ?_; rintro e w1 ⟨v1, rfl, hR, hb⟩; have HR : Aside0 _ := ⟨hR⟩; have HB : Aside0 _ := ⟨hb⟩; clear hR hb) | (go_at_call 63; refine (HD.out _ _ (by simpa using HR.out) (by simpa using HB.out)).mono ?_; rintro e w2 ⟨rfl, hb⟩; have HB2 : Aside0 _ := ⟨hb⟩; clear hb))
  go_ret
  exact ⟨rfl, HB2.out⟩

end Go.Proofs.YtllihaahppelhaaGreat.P
namespace Go.Proofs.YtllihaahppelhaaGreat.P
open Go.RowKit Go.Proofs.YtllihaahppelhaaGreatW.PrintWords Go.Proofs.YtllihaahppelhaaGreatW.PrintLast Go.Proofs.YtllihaahppelhaaGreatW.PrintMore
attribute [local go_sem] max2_int min2_int max_two min_two max_three min_three max_four min_four   -- for this text's walks alone
set_option linter.unusedVariables false
set_option linter.unusedSimpArgs false

/-! ### impl_isGrand: function 34, by hand -/
-- IMPORT Derived.Test.YtllihaahppelhaaGreatHlp
def impl_isGrand.f (l0 : List S41) (a1 a2 : Int) : Option Bool :=
  if 0 ≤ a2 ∧ a2 < (l0.length : Int) then (if (impl_isAunt.ps l0 a2).all (fun p => decide (0 ≤ p ∧ p < (l0.length : Int))) = true then some ((impl_isAunt.ps l0 a2).any fun p => (impl_isAunt.ps l0 p).contains a1) else none) else none
theorem impl_isGrand.parent (l0 : List S41) (a p : Int) (h : 0 ≤ p ∧ p < (l0.length : Int)) : ∃ k, impl_isParent.f k l0 a p = some ((impl_isAunt.ps l0 p).contains a) := by
  obtain ⟨k, hk⟩ := impl_common.contains (impl_isAunt.ps l0 p) a (Nat.le_trans (List.length_filter_le _ _) (by simp))
  refine ⟨k, ?_⟩
  unfold impl_isParent.f
  rw [if_pos h.1, if_pos h.2, show impl_Kin_parents.f (rd_T41 l0 p).f0 (rd_T41 l0 p).f1 (rd_T41 l0 p).f2 = some (impl_isAunt.ps l0 p) from rfl]
  simp only [Option.bind_some, hk]
set_option maxHeartbeats 2000000 in
theorem impl_isGrand.clo (A0 : Option Addr) (c0 : Nat) (l0 : List S41) (a1 p : Int) (b : Bool) (B1 B2 : Nat) (W : World) (h1 : W.cell? ⟨B1, 0, none⟩ = some (.slice A0 l0.length c0)) (h2 : W.cell? ⟨B2, 0, none⟩ = some (.int .i64 a1)) (hr0 : Kd.C k41 W A0 l0.length l0) (hc0 : l0.length ≤ c0) (hs : 0 ≤ p ∧ p < (l0.length : Int)) (hb : (impl_isAunt.ps l0 p).contains a1 = b) :
    Calls Tryz.prog 64 #[.int .i64 p, .pointer (some ⟨B1, 0, none⟩), .pointer (some ⟨B2, 0, none⟩)] W fun e w' => e = .returned (.bool b) ∧ Below W.heap.size W w' := by
  obtain ⟨k, hk⟩ := impl_isGrand.parent l0 a1 p hs
  rw [hb] at hk
  have hcall := impl_isParent.calls k A0 c0 l0 a1 p b W hr0 hc0 hk
  have HC : Aside0 _ := ⟨hcall⟩
  clear hcall hr0 hs hk hb
  go_enter Tryz.func64, Tryz.ntmps64
  go_wp2_with (go_at_call 32; refine HC.out.mono ?_; rintro e w' ⟨rfl, hb⟩)
  go_ret
  exact ⟨rfl, hb⟩
set_option maxHeartbeats 4000000 in
theorem impl_isGrand.calls (A0 : Option Addr) (c0 : Nat) (l0 : List S41) (a1 a2 : Int) (r : Bool) (w : World) (hr0 : Kd.C k41 w A0 l0.length l0) (hc0 : l0.length ≤ c0) (h : impl_isGrand.f l0 a1 a2 = some r) :
    Calls Tryz.prog 34 #[.slice A0 l0.length c0, .int .i64 a1, .int .i64 a2] w fun e w' => e = .returned (.bool r) ∧ Below w.heap.size w w' := by
  unfold impl_isGrand.f at h
  have hi : 0 ≤ a2 ∧ a2 < (l0.length : Int) := by
    split at h
    · assumption
    · cases h
  rw [if_pos hi] at h
  have hall : (impl_isAunt.ps l0 a2).all (fun p => decide (0 ≤ p ∧ p < (l0.length : Int))) = true := by
    split at h
    · assumption
    · cases h
  rw [if_pos hall] at h
  obtain rfl := Option.some.inj h
  clear h
  have eg : ∀ args w, (callFunc 64 args).run Tryz.prog w = .ok (.enter 64 args) w := enters_of Tryz.func64 (by kernel_rfl) rfl
  have hb1 : Below w.heap.size w ((w.alloc (.cells #[.slice A0 l0.length c0] 24)).alloc (.cells #[.int .i64 a1] 3)) := ((Below.refl _ w).alloc (Nat.le_refl _) _).alloc (by simp) _
  have hrw : Kd.C k41 ((w.alloc (.cells #[.slice A0 l0.length c0] 24)).alloc (.cells #[.int .i64 a1] 3)) A0 l0.length l0 := Kd.C_below hr0 hb1
  obtain ⟨m, rfl⟩ := Int.eq_ofNat_of_zero_le hi.1
  have hm : m < l0.length := by omega
  obtain ⟨ad, rfl, g0, g1, g2⟩ := at_T41 hrw (m : Int) hi.1 hi.2
  rw [Int.toNat_natCast] at g0 g1 g2
  have hlen := Hlp.C_len hr0
  have hpar := fun W => impl_Kin_parents.calls (rd_T41 l0 (m : Int)).f0 (rd_T41 l0 (m : Int)).f1 (rd_T41 l0 (m : Int)).f2 (impl_isAunt.ps l0 (m : Int)) W rfl
  have hcf : ∀ (v : Value) (w1 : World), Kd.R (Kd.int .i64) 3 w1 (w.heap.size + 1 + 1) (fun _ => True) v (impl_isAunt.ps l0 (m : Int)) → Below (w.heap.size + 1 + 1) ((w.alloc (.cells #[.slice (some ad) l0.length c0] 24)).alloc (.cells #[.int .i64 a1] 3)) w1 →
      Calls Tryz.prog 63 #[v, .func (.func 64) #[] #[.pointer (some ⟨w.heap.size, 0, none⟩), .pointer (some ⟨w.heap.size + 1, 0, none⟩)]] w1 fun e w' =>
        e = .returned (.bool ((impl_isAunt.ps l0 (m : Int)).any fun p => (impl_isAunt.ps l0 p).contains a1)) ∧ Below w.heap.size w w' := by
    intro v w1 hR hb2
    obtain ⟨A, c, rfl, hlc, hC⟩ := Kd.R_reads hR
    have hb3 : Below w.heap.size w w1 := hb1.trans (hb2.mono (by omega))
    refine (slices_ContainsFunc_int_int.any (fun p => (impl_isAunt.ps l0 p).contains a1) 64 _ eg A c _ w1 hC (fun x hx W hW => ?_)).mono ?_
    · have hb4 : Below (w.heap.size + 1 + 1) ((w.alloc (.cells #[.slice (some ad) l0.length c0] 24)).alloc (.cells #[.int .i64 a1] 3)) W := below_then hb2 (by have := hb2.size; simpa using this) hW
      have hs := of_decide_eq_true (List.all_eq_true.1 hall x hx)
      refine impl_isGrand.clo (some ad) c0 l0 a1 x _ w.heap.size (w.heap.size + 1) W ((hb4.cell (p := ⟨w.heap.size, 0, none⟩) (by simp; omega)).trans (by simp)) ((hb4.cell (p := ⟨w.heap.size + 1, 0, none⟩) (by simp)).trans (by simp)) (Kd.C_below hr0 (hb1.trans (hb4.mono (by omega)))) hc0 hs rfl
    · rintro e w' ⟨he, hb⟩
      exact ⟨he, below_then hb3 (by have := hb3.size; exact this) hb⟩
  generalize ((impl_isAunt.ps l0 (m : Int)).any fun p => (impl_isAunt.ps l0 p).contains a1) = r at hcf ⊢
  generalize impl_isAunt.ps l0 (m : Int) = ps at hcf hpar
  have HP : Aside0 _ := ⟨hpar⟩
  have HD : Aside0 _ := ⟨hcf⟩
  generalize (rd_T41 l0 (m : Int)).f0 = x0 at g0 HP
  generalize (rd_T41 l0 (m : Int)).f1 = x1 at g1 HP
  generalize (rd_T41 l0 (m : Int)).f2 = x2 at g2 HP
  clear hpar hcf hall hb1 hr0 hrw hi
  go_enter Tryz.func34, Tryz.ntmps34
  go_wp2_with (first | (go_at_call 49; refine (HP.out _).mono ?_; rintro e w1 ⟨v1, rfl, hR, hb⟩; have HR : Aside0 _ := ⟨hR⟩; have HB : Aside0 _ := ⟨hb⟩; clear hR hb) | (go_at_call 63; refine (HD.out _ _ (by simpa using HR.out) (by simpa using HB.out)).mono ?_; rintro e w2 ⟨rfl, hb⟩; have HB2 : Aside0 _ := ⟨hb⟩; clear hb))
  go_ret
  exact ⟨rfl, HB2.out⟩

end Go.Proofs.YtllihaahppelhaaGreat.P
namespace Go.Proofs.YtllihaahppelhaaGreat.P
open Go.RowKit Go.Proofs.YtllihaahppelhaaGreatW.PrintWords Go.Proofs.YtllihaahppelhaaGreatW.PrintLast Go.Proofs.YtllihaahppelhaaGreatW.PrintMore
attribute [local go_sem] max2_int min2_int max_two min_two max_three min_three max_four min_four   -- for this text's walks alone
set_option linter.unusedVariables false
set_option linter.unusedSimpArgs false

/-! ### impl_areCousins: function 36, by hand -/
-- IMPORT Derived.Test.YtllihaahppelhaaGreatHlp
def impl_areCousins.f (l0 : List S41) (a1 a2 : Int) : Option Bool :=
  if a1 = a2 then some false else (impl_areSiblings.f l0 a1 a2).bind fun s => if s = true then some false else
  if 0 ≤ a1 ∧ a1 < (l0.length : Int) then (if (impl_isAunt.ps l0 a1).all (fun p => (impl_isAunt.f l0 p a2).isSome) = true then some ((impl_isAunt.ps l0 a1).any fun p => (impl_isAunt.f l0 p a2).getD false) else none) else none
set_option maxHeartbeats 2000000 in
theorem impl_areCousins.clo (A0 : Option Addr) (c0 : Nat) (l0 : List S41) (a2 p : Int) (b : Bool) (B1 B2 : Nat) (W : World) (h1 : W.cell? ⟨B1, 0, none⟩ = some (.slice A0 l0.length c0)) (h2 : W.cell? ⟨B2, 0, none⟩ = some (.int .i64 a2)) (hr0 : Kd.C k41 W A0 l0.length l0) (hc0 : l0.length ≤ c0) (hs : impl_isAunt.f l0 p a2 = some b) :
    Calls Tryz.prog 66 #[.int .i64 p, .pointer (some ⟨B1, 0, none⟩), .pointer (some ⟨B2, 0, none⟩)] W fun e w' => e = .returned (.bool b) ∧ Below W.heap.size W w' := by
  have hcall := impl_isAunt.calls A0 c0 l0 p a2 b W hr0 hc0 hs
  have HC : Aside0 _ := ⟨hcall⟩
  clear hcall hr0 hs
  go_enter Tryz.func66, Tryz.ntmps66
  go_wp2_with (go_at_call 35; refine HC.out.mono ?_; rintro e w' ⟨rfl, hb⟩)
  go_ret
  exact ⟨rfl, hb⟩
set_option maxHeartbeats 4000000 in
theorem impl_areCousins.calls (A0 : Option Addr) (c0 : Nat) (l0 : List S41) (a1 a2 : Int) (r : Bool) (w : World) (hr0 : Kd.C k41 w A0 l0.length l0) (hc0 : l0.length ≤ c0) (h : impl_areCousins.f l0 a1 a2 = some r) :
    Calls Tryz.prog 36 #[.slice A0 l0.length c0, .int .i64 a1, .int .i64 a2] w fun e w' => e = .returned (.bool r) ∧ Below w.heap.size w w' := by
  unfold impl_areCousins.f at h
  have hb1 : Below w.heap.size w ((w.alloc (.cells #[.slice A0 l0.length c0] 24)).alloc (.cells #[.int .i64 a2] 3)) := ((Below.refl _ w).alloc (Nat.le_refl _) _).alloc (by simp) _
  by_cases he : a1 = a2
  · rw [if_pos he] at h
    obtain rfl := Option.some.inj h
    have e1 : (a1 == a2) = true := beq_iff_eq.2 he
    have HB : Aside0 _ := ⟨hb1⟩
    clear hb1 h he hr0
    go_enter Tryz.func36, Tryz.ntmps36
    go_wp2
    go_ret
    exact ⟨rfl, HB.out⟩
  rw [if_neg he] at h
  have e1 : (a1 == a2) = false := beq_eq_false_iff_ne.2 he
  obtain ⟨s, hs, h⟩ := Option.bind_eq_some_iff.1 h
  have hrw : Kd.C k41 ((w.alloc (.cells #[.slice A0 l0.length c0] 24)).alloc (.cells #[.int .i64 a2] 3)) A0 l0.length l0 := Kd.C_below hr0 hb1
  have hsib := impl_areSiblings.calls A0 c0 l0 a1 a2 s _ hrw hc0 hs
  cases s with
  | true =>
    rw [if_pos rfl] at h
    obtain rfl := Option.some.inj h
    have HB : Aside0 _ := ⟨hb1⟩
    have HS : Aside0 _ := ⟨hsib⟩
    clear hb1 h he hr0 hrw hsib hs
    go_enter Tryz.func36, Tryz.ntmps36
    go_wp2_with (go_at_call 33; refine HS.out.mono ?_; rintro e w1 ⟨rfl, hb⟩; have HB0 : Aside0 _ := ⟨hb⟩; clear hb)
    go_ret
    exact ⟨rfl, below_then HB.out (by simp; omega) HB0.out⟩
  | false =>
  rw [if_neg (by simp)] at h
  have hi : 0 ≤ a1 ∧ a1 < (l0.length : Int) := by
    split at h
    · assumption
    · cases h
  rw [if_pos hi] at h
  have hall : (impl_isAunt.ps l0 a1).all (fun p => (impl_isAunt.f l0 p a2).isSome) = true := by
    split at h
    · assumption
    · cases h
  rw [if_pos hall] at h
  obtain rfl := Option.some.inj h
  clear h hs
  have eg : ∀ args w, (callFunc 66 args).run Tryz.prog w = .ok (.enter 66 args) w := enters_of Tryz.func66 (by kernel_rfl) rfl
  obtain ⟨m, rfl⟩ := Int.eq_ofNat_of_zero_le hi.1
  have hm : m < l0.length := by omega
  obtain ⟨ad, rfl, g0, g1, g2⟩ := at_T41 hrw (m : Int) hi.1 hi.2
  rw [Int.toNat_natCast] at g0 g1 g2
  have hlen := Hlp.C_len hr0
  have hpar := fun W => impl_Kin_parents.calls (rd_T41 l0 (m : Int)).f0 (rd_T41 l0 (m : Int)).f1 (rd_T41 l0 (m : Int)).f2 (impl_isAunt.ps l0 (m : Int)) W rfl
  have hcf : ∀ (v : Value) (w0 w1 : World), Below (w.heap.size + 1 + 1) ((w.alloc (.cells #[.slice (some ad) l0.length c0] 24)).alloc (.cells #[.int .i64 a2] 3)) w0 → Kd.R (Kd.int .i64) 3 w1 w0.heap.size (fun _ => True) v (impl_isAunt.ps l0 (m : Int)) → Below w0.heap.size w0 w1 →
      Calls Tryz.prog 63 #[v, .func (.func 66) #[] #[.pointer (some ⟨w.heap.size, 0, none⟩), .pointer (some ⟨w.heap.size + 1, 0, none⟩)]] w1 fun e w' =>
        e = .returned (.bool ((impl_isAunt.ps l0 (m : Int)).any fun p => (impl_isAunt.f l0 p a2).getD false)) ∧ Below w.heap.size w w' := by
    intro v w0 w1 hb0 hR hb2'
    obtain ⟨A, c, rfl, hlc, hC⟩ := Kd.R_reads hR
    have hb2 : Below (w.heap.size + 1 + 1) ((w.alloc (.cells #[.slice (some ad) l0.length c0] 24)).alloc (.cells #[.int .i64 a2] 3)) w1 := below_then hb0 (by have := hb0.size; simpa using this) hb2'
    have hb3 : Below w.heap.size w w1 := hb1.trans (hb2.mono (by omega))
    refine (slices_ContainsFunc_int_int.any (fun p => (impl_isAunt.f l0 p a2).getD false) 66 _ eg A c _ w1 hC (fun x hx W hW => ?_)).mono ?_
    · have hb4 : Below (w.heap.size + 1 + 1) ((w.alloc (.cells #[.slice (some ad) l0.length c0] 24)).alloc (.cells #[.int .i64 a2] 3)) W := below_then hb2 (by have := hb2.size; simpa using this) hW
      have hs := List.all_eq_true.1 hall x hx
      obtain ⟨b, hb⟩ := Option.isSome_iff_exists.1 hs
      rw [hb]
      refine impl_areCousins.clo (some ad) c0 l0 a2 x b w.heap.size (w.heap.size + 1) W ((hb4.cell (p := ⟨w.heap.size, 0, none⟩) (by simp; omega)).trans (by simp)) ((hb4.cell (p := ⟨w.heap.size + 1, 0, none⟩) (by simp)).trans (by simp)) (Kd.C_below hr0 (hb1.trans (hb4.mono (by omega)))) hc0 hb
    · rintro e w' ⟨he, hb⟩
      exact ⟨he, below_then hb3 (by have := hb3.size; exact this) hb⟩
  generalize ((impl_isAunt.ps l0 (m : Int)).any fun p => (impl_isAunt.f l0 p a2).getD false) = r at hcf ⊢
  generalize impl_isAunt.ps l0 (m : Int) = ps at hcf hpar
  have HP : Aside0 _ := ⟨hpar⟩
  have HD : Aside0 _ := ⟨hcf⟩
  have HS : Aside0 _ := ⟨hsib⟩
  generalize (rd_T41 l0 (m : Int)).f0 = x0 at g0 HP
  generalize (rd_T41 l0 (m : Int)).f1 = x1 at g1 HP
  generalize (rd_T41 l0 (m : Int)).f2 = x2 at g2 HP
  clear hpar hcf hall hb1 hr0 hrw hi hsib he
  go_enter Tryz.func36, Tryz.ntmps36
  go_wp2_with (first | (go_at_call 33; refine HS.out.mono ?_; rintro e w0 ⟨rfl, hb⟩; have HB0 : Aside0 _ := ⟨hb⟩; have k1 : w0.cell? ⟨w.heap.size, 0, none⟩ = some (.slice (some ad) l0.length c0) := (HB0.out.cell (p := ⟨w.heap.size, 0, none⟩) (by simp; omega)).trans (by simp); have k2 : w0.cell? ⟨w.heap.size + 1, 0, none⟩ = some (.int .i64 a2) := (HB0.out.cell (p := ⟨w.heap.size + 1, 0, none⟩) (by simp)).trans (by simp); have q0 := pw_cell_below HB0.out g0; have q1 := pw_cell_below HB0.out g1; have q2 := pw_cell_below HB0.out g2; clear hb g0 g1 g2) | (go_at_call 49; refine (HP.out _).mono ?_; rintro e w1 ⟨v1, rfl, hR, hb⟩; have HR : Aside0 _ := ⟨hR⟩; have HB : Aside0 _ := ⟨hb⟩; clear hR hb) | (go_at_call 63; refine (HD.out _ _ _ (by simpa using HB0.out) (by simpa using HR.out) (by simpa using HB.out)).mono ?_; rintro e w2 ⟨rfl, hb⟩; have HB2 : Aside0 _ := ⟨hb⟩; clear hb))
  go_ret
  exact ⟨rfl, HB2.out⟩

end Go.Proofs.YtllihaahppelhaaGreat.P
namespace Go.Proofs.YtllihaahppelhaaGreat.P
open Go.RowKit Go.Proofs.YtllihaahppelhaaGreatW.PrintWords Go.Proofs.YtllihaahppelhaaGreatW.PrintLast Go.Proofs.YtllihaahppelhaaGreatW.PrintMore
attribute [local go_sem] max2_int min2_int max_two min_two max_three min_three max_four min_four   -- for this text's walks alone
set_option linter.unusedVariables false
set_option linter.unusedSimpArgs false

/-! ### impl_distinct: function 68, by hand -/
-- IMPORT Derived.Test.YtllihaahppelhaaGreatHlp
-- IMPORT Derived.Sort.OwnSortedInts
-- IMPORT Derived.Lib.OwnBridge
-- IMPORT Derived.Test.YtllihaahppelhaaGreatShl
def impl_distinct.f (l0 : List Int) : Option (List Int) := if l0.length < 17592186044416 then some (Lib.compact (l0.mergeSort fun x y => decide (x ≤ y))) else none
set_option maxHeartbeats 1000000 in
theorem impl_distinct.sort (base : Nat) (v : Value) (xs : List Int) (w0 w1 : World) (hx : xs.length < 4611686018427387904) (hR : Kd.R (Kd.int .i64) 3 w1 base (fun _ => True) v xs) (hB : Below base w0 w1) (hbs : base ≤ w0.heap.size) :
    Calls Tryz.prog 86 #[v] w1 fun e w' => e = .returned (.tuple #[]) ∧ Kd.R (Kd.int .i64) 3 w' base (fun _ => True) v (xs.mergeSort fun x y => decide (x ≤ y)) ∧ Below base w0 w' := by
  have own := Kd.own_of_R hR
  rcases own.2 with ⟨rfl, h0⟩ | ⟨g, cap, cur, rfl, hbase, hb, h1, h2, h3, h4⟩
  · obtain rfl : xs = [] := List.eq_nil_of_length_eq_zero h0
    have hcon := Tryz.slices_Sort_int_none none 0 w1
    refine hcon.mono ?_
    rintro e w' ⟨rfl, rfl⟩
    exact ⟨rfl, by simpa using Kd.R_nil (Kd.int .i64) _ _ _ _, hB⟩
  · have hH : Go.Sort.Holds (Value.int .i64) w1 g 0 xs.toArray := holds_of_blockI hb (by simpa [encs] using h4)
    have hg : g < w1.heap.size := (Array.getElem?_eq_some_iff.1 hb).1
    have hcon := Tryz.slices_Sort_int g 0 cap xs w1 hH hg hx
    refine hcon.mono ?_
    rintro e w' ⟨rfl, n, os, rfl⟩
    have hs := ownsRow_sortedI (n := n) (os := os) (ss := xs) (ts := xs.mergeSort fun x y => decide (x ≤ y)) (List.length_mergeSort xs) hbase hb h1 h2 h3
    refine ⟨rfl, Kd.R_of_own (by simpa [encs] using hs) (fun _ _ => trivial), hB.grown (grownBy_sortedI _) (Nat.le_trans hbs hB.size) (fun j hj => by cases hj; exact hbase)⟩
set_option maxHeartbeats 1000000 in
theorem impl_distinct.comp (base : Nat) (v : Value) (xs : List Int) (w0 w1 : World) (hx : xs.length < 4611686018427387904) (hR : Kd.R (Kd.int .i64) 3 w1 base (fun _ => True) v xs) (hB : Below base w0 w1) :
    Calls Tryz.prog 87 #[v] w1 fun e w' => ∃ v' : Value, e = .returned v' ∧ Kd.R (Kd.int .i64) 3 w' base (fun _ => True) v' (Lib.compact xs) ∧ Below base w0 w' := by
  have own := Kd.own_of_R hR
  rcases own.2 with ⟨rfl, h0⟩ | ⟨g, cap, cur, rfl, hbase, hb, h1, h2, h3, h4⟩
  · obtain rfl : xs = [] := List.eq_nil_of_length_eq_zero h0
    have hcon := Tryz.slices_Compact_int_empty none 0 w1
    refine hcon.mono ?_
    rintro e w' ⟨rfl, rfl⟩
    exact ⟨_, rfl, Kd.R_nil _ _ _ _ _, hB⟩
  · have hH : Go.Sort.Holds (Value.int .i64) w1 g 0 xs.toArray := holds_of_blockI hb (by simpa [encs] using h4)
    have hcon := Tryz.slices_Compact_int g 0 cap xs w1 hH (by omega) h1
    refine hcon.mono ?_
    rintro e w' ⟨rfl, q, rfl⟩
    have hle := Lib.compact_length_le xs
    have hc := Lib.ownsRow_putRow (enc := Value.int .i64) (q := q) (k := (Lib.compact xs).length) (ys := Lib.compact xs ++ List.replicate (xs.length - (Lib.compact xs).length) 0) (zs := xs) (by simpa [encs] using own) (by simp; omega) hle
    rw [List.take_left] at hc
    exact ⟨_, rfl, Kd.R_of_own (by simpa [encs] using hc) (fun _ _ => trivial), Lib.below_putRow hB hbase⟩
set_option maxHeartbeats 2000000 in
theorem impl_distinct.calls (A0 : Option Addr) (c0 : Nat) (l0 : List Int) (r : List Int) (w : World) (hr0 : Kd.C (Kd.int .i64) w A0 l0.length l0) (hc0 : l0.length ≤ c0) (h : impl_distinct.f l0 = some r) :
    Calls Tryz.prog 68 #[.slice A0 l0.length c0] w fun e w' => ∃ v0_ : Value, e = .returned v0_ ∧ Kd.R (Kd.int .i64) 3 w' w.heap.size (fun _ => True) v0_ r ∧ Below w.heap.size w w' := by
  have hlt : l0.length < 17592186044416 := by
    unfold impl_distinct.f at h
    split at h
    · assumption
    · cases h
  obtain rfl : Lib.compact (l0.mergeSort fun x y => decide (x ≤ y)) = r := by unfold impl_distinct.f at h; rw [if_pos hlt] at h; exact Option.some.inj h
  have hcl := slices_Clone_int_int.calls A0 c0 l0 l0 w hr0 hc0 (by unfold slices_Clone_int_int.f; rw [if_pos hlt])
  have hso := fun (v : Value) (w1 : World) (hR : Kd.R (Kd.int .i64) 3 w1 w.heap.size (fun _ => True) v l0) (hB : Below w.heap.size w w1) => impl_distinct.sort w.heap.size v l0 w w1 (by omega) hR hB (Nat.le_refl _)
  have hl2 : (l0.mergeSort fun x y => decide (x ≤ y)).length = l0.length := List.length_mergeSort l0
  generalize l0.mergeSort (fun x y => decide (x ≤ y)) = s at hso hl2 ⊢
  have hco := fun (v : Value) (w1 : World) (hR : Kd.R (Kd.int .i64) 3 w1 w.heap.size (fun _ => True) v s) (hB : Below w.heap.size w w1) => impl_distinct.comp w.heap.size v s w w1 (by omega) hR hB
  generalize Lib.compact s = r at hco ⊢
  have HC : Aside0 _ := ⟨hcl⟩
  have HS : Aside0 _ := ⟨hso⟩
  have HD : Aside0 _ := ⟨hco⟩
  clear hcl hso hco hr0 h hlt hl2
  go_enter Tryz.func68, Tryz.ntmps68
  go_wp2_with (first | (go_at_call 85; refine HC.out.mono ?_; rintro e w1 ⟨v1, rfl, hR, hb⟩; have HR : Aside0 _ := ⟨hR⟩; have HB : Aside0 _ := ⟨hb⟩; clear hR hb) | (go_at_call 86; refine (HS.out _ _ HR.out HB.out).mono ?_; rintro e w2 ⟨rfl, hO, hb⟩; have HO : Aside0 _ := ⟨hO⟩; have HB2 : Aside0 _ := ⟨hb⟩; clear hO hb) | (go_at_call 87; refine (HD.out _ _ HO.out HB2.out).mono ?_; rintro e w3 ⟨v3, rfl, hO, hb⟩; have HO3 : Aside0 _ := ⟨hO⟩; have HB3 : Aside0 _ := ⟨hb⟩; clear hO hb))
  go_ret
  exact ⟨_, rfl, HO3.out, HB3.out⟩

end Go.Proofs.YtllihaahppelhaaGreat.P
namespace Go.Proofs.YtllihaahppelhaaGreat.P
open Go.RowKit Go.Proofs.YtllihaahppelhaaGreatW.PrintWords Go.Proofs.YtllihaahppelhaaGreatW.PrintLast Go.Proofs.YtllihaahppelhaaGreatW.PrintMore
attribute [local go_sem] max2_int min2_int max_two min_two max_three min_three max_four min_four   -- for this text's walks alone
set_option linter.unusedVariables false
set_option linter.unusedSimpArgs false

/-! ### impl_ancestors: function 38 -/
mutual
def impl_ancestors.l0 : Nat → List (S41) → List Int → List Int → Int → Int → Option (List Int)
 | 0, _, _, _, _, _ => none
 | k + 1, x0, x5, x13, x14, x15 => if x15 < x14 then (if 0 ≤ x15 then (if x15 < (x13.length : Int) then (if x5.length < 17592186044416 then ((some (x5 ++ [rd x13 x15] : List Int)).bind fun y253 => ((impl_ancestors.f k x0 (rd x13 x15)).bind fun t256 => (if y253.length + t256.length < 17592186044416 then (impl_ancestors.l0 k x0 (y253 ++ t256) x13 x14 (wrap64 (x15 + 1))) else (none)))) else (none)) else (none)) else (none)) else ((impl_distinct.f x5).bind fun t262 => (some t262))
def impl_ancestors.f : Nat → List (S41) → Int → Option (List Int)
 | 0, _, _ => none
 | k + 1, l0, a1 => if 0 ≤ a1 then (if a1 < (l0.length : Int) then ((impl_Kin_parents.f ((rd_T41 l0 a1).f0) ((rd_T41 l0 a1).f1) ((rd_T41 l0 a1).f2)).bind fun t249 => (impl_ancestors.l0 k l0 (([] : List Int)) t249 (t249.length : Int) 0)) else (none)) else (none)
end
set_option maxHeartbeats 8000000 in
set_option maxRecDepth 100000 in
theorem impl_ancestors.calls (k : Nat) : ∀ (A0 : Option Addr) (c0 : Nat) (l0 : List (S41)) (a1 : Int) (r : List Int) (w : World) (hr0 : Kd.C k41 w A0 l0.length l0) (hc0 : l0.length ≤ c0) (h : impl_ancestors.f k l0 a1 = some r),
  Calls Tryz.prog 38 #[.slice A0 l0.length c0, .int .i64 a1] w fun e w' => ∃ v0_ : Value, e = .returned (v0_) ∧ Kd.R (Kd.int .i64) 3 w' w.heap.size (fun _ => True) v0_ r ∧ Below w.heap.size w w' := by
 induction k using Nat.strongRecOn with
 | _ k ih =>
 intro A0 c0 l0 a1 r w hr0 hc0 h
 cases k with
 | zero => exact absurd h (by simp [impl_ancestors.f])
 | succ k =>
 simp only [impl_ancestors.f] at h
 have hu41 := Tryz.underlying41
 have HR0 := Aside0.mk hr0
 have HC0 := Aside0.mk hc0
 clear hr0 hc0
 have HB := Aside0.mk (Below.refl w.heap.size w)
 have H : (if 0 ≤ a1 then (if a1 < (l0.length : Int) then ((impl_Kin_parents.f ((rd_T41 l0 a1).f0) ((rd_T41 l0 a1).f1) ((rd_T41 l0 a1).f2)).bind fun t249 => (impl_ancestors.l0 k l0 (([] : List Int)) t249 (t249.length : Int) 0)) else (none)) else (none)) = some r := h
 clear h
 obtain ⟨y245, hy245⟩ : ∃ y_ : List Int, y_ = (([] : List Int)) := ⟨_, rfl⟩
 replace H : (if 0 ≤ a1 then (if a1 < (l0.length : Int) then ((impl_Kin_parents.f ((rd_T41 l0 a1).f0) ((rd_T41 l0 a1).f1) ((rd_T41 l0 a1).f2)).bind fun t249 => (impl_ancestors.l0 k l0 y245 t249 (t249.length : Int) 0)) else (none)) else (none)) = some r := by first | (rw [hy245]; with_reducible exact H) | (have H2_ := (Option.bind_some _ _).symm.trans H; rw [hy245]; with_reducible exact H2_) | (have H2_ := (Option.bind_some _ _).symm.trans H; with_reducible exact H2_) | with_reducible exact H | (rw [hy245]; exact H) | exact H
 have Ny245 := Aside0.mk hy245
 clear hy245
 by_cases c3 : 0 ≤ a1
 ·rw [if_pos c3] at H
  have c3b0 : decide (0 ≤ a1) = true := decide_eq_true c3
  clear c3
  by_cases c4 : a1 < (l0.length : Int)
  ·rw [if_pos c4] at H
   have c4b0 : decide (a1 < (l0.length : Int)) = true := decide_eq_true c4
   clear c4
   replace H := Option.bind_eq_some_iff.mp H
   obtain ⟨t249, A50, H⟩ := H
   have A5 := Aside0.mk A50
   clear A50
   have H' := Aside0.mk H
   clear H
   go_enter Tryz.func38, Tryz.ntmps38
   go_wp2_with (first | ((with_reducible refine gate_dst (N := 8) rfl ?_); refine Kd.R_lit (Kd.int .i64) _ 3 ?hg (N := 8) ?hd (xs := ([] : List Int)) (inner := []) (ok := fun _ => True) (okp := fun _ => True) ?hr ?hp (fun _ hk => hk) trivial (Below.refl _ _) (Nat.le_refl _) (by simp) ?_; (case hd => rfl); (case hg => rfl); (case hr => first | (go_simp; done) | (go_simp; rfl)); (case hp => exact (Reps.none _ _)); intro v246 w6 ho7 hb hg_ hnew_; clear hg_ hnew_; (first | rw [← Ny245.out] at ho7 | (simp only [Int.reduceToNat] at ho7; rw [← Ny245.out] at ho7)); have n0_ := Aside0.mk (Kd.R_lower ho7 (below_size kO)); have n1_ := kH HB hb; clear HB; have HO247 := n0_; have HB := n1_; clear n0_ n1_; clear hb ho7; have p248 : 0 ≤ (a1 : Int) := of_decide_eq_true (by first | (with_reducible assumption) | assumption); have q248 : a1 < (l0.length : Int) := of_decide_eq_true (by first | (with_reducible assumption) | assumption); obtain ⟨ad248, e248, hx248_0, hx248_1, hx248_2⟩ := at_T41 HR0.out a1 p248 q248; cases e248; replace hx248_0 := (HB.out.cell (World.block_lt_of_cell? w _ hx248_0)).trans hx248_0; replace hx248_1 := (HB.out.cell (World.block_lt_of_cell? w _ hx248_1)).trans hx248_1; replace hx248_2 := (HB.out.cell (World.block_lt_of_cell? w _ hx248_2)).trans hx248_2; replace p248 := eq_true p248; replace q248 := eq_true q248) | ((with_reducible refine gate_callee (f := 49) rfl ?_); refine kE (some 13) Tryz.func49 #[.agg #[.int .i64 ((rd_T41 l0 a1).f0), .int .i64 ((rd_T41 l0 a1).f1), .int .i64 ((rd_T41 l0 a1).f2)]] rfl ?_; (with_reducible refine (impl_Kin_parents.calls ((rd_T41 l0 a1).f0) ((rd_T41 l0 a1).f1) ((rd_T41 l0 a1).f2) t249 _ A5.out).mono ?_); rintro e w8 ⟨v250, rfl, ho0, hb⟩; refine ⟨_, rfl, ?_⟩; have n0_ := Aside0.mk (Kd.R_elder' (kW HO247) (Kd.R_base ho0) hb); have n1_ := Aside0.mk (Kd.R_lower (Kd.R_new' ho0 (Kd.R_lt (kW HO247))) (below_size kO)); have n2_ := kH HB hb; clear HO247; clear HB; have HO247 := n0_; have HO251 := n1_; have HB := n2_; clear n0_ n1_ n2_; (try clear hb); (try clear ho0); obtain ⟨Ao9, co9, eo9⟩ := Kd.R_slice HO251.out; subst eo9))
   go_loopg [5, 15] k (fun kq v5 v15 w' => ∃ (x5_1 : List Int) (x15_1 : Int), v15 = .int .i64 x15_1 ∧ Aside0 (impl_ancestors.l0 kq l0 x5_1 t249 (t249.length : Int) x15_1 = some r) ∧ Aside0 (kq ≤ k) ∧ Aside0 (Kd.R (Kd.int .i64) 3 w' w.heap.size (fun k_ => some k_ ≠ ((.slice Ao9 t249.length co9) : Value).ownBlock) v5 x5_1) ∧ Aside0 (Kd.R (Kd.int .i64) 3 w' w.heap.size (fun k_ => some k_ ≠ (v5 : Value).ownBlock) (.slice Ao9 t249.length co9) t249) ∧ Aside0 (Below w.heap.size w w'))
   case atStart => exact ⟨(y245), (0), kY, H', ⟨Nat.le_refl _⟩, ⟨by (with_reducible repeat (first | apply Kd.R_alloc | apply Kd.R_drewN | apply Kd.R_drew)); exact Kd.R_mono HO247.out (fun _ hk => hk.2)⟩, ⟨by (with_reducible repeat (first | apply Kd.R_alloc | apply Kd.R_drewN | apply Kd.R_drew)); exact Kd.R_mono HO251.out (fun _ hk => hk.2)⟩, kI⟩
   case round =>
    clear H'
    try clear c3
    try clear c3b0
    try clear c4
    try clear c4b0
    try clear p248
    obtain ⟨x5_1, x15_1, rfl, HA, HK1, HO_5, HO_13, HB⟩ := hrel
    cases gk with
    | zero => exact absurd HA.out (by simp [impl_ancestors.l0])
    | succ k1 =>
     have H := HA.out
     clear HA
     simp only [impl_ancestors.l0] at H
     by_cases c10 : x15_1 < (t249.length : Int)
     ·rw [if_pos c10] at H
      have c10b0 : decide (x15_1 < (t249.length : Int)) = true := decide_eq_true c10
      clear c10
      by_cases c11 : 0 ≤ x15_1
      ·rw [if_pos c11] at H
       have c11b0 : decide (0 ≤ x15_1) = true := decide_eq_true c11
       clear c11
       by_cases c12 : x15_1 < (t249.length : Int)
       ·rw [if_pos c12] at H
        have c12b0 : decide (x15_1 < (t249.length : Int)) = true := decide_eq_true c12
        clear c12
        by_cases c13 : x5_1.length < 17592186044416
        ·rw [if_pos c13] at H
         have LMc13 := Aside0.mk c13
         clear c13
         obtain ⟨y253, hy253⟩ : ∃ y_ : List Int, y_ = (x5_1 ++ [rd t249 x15_1]) := ⟨_, rfl⟩
         replace H : ((impl_ancestors.f k1 l0 (rd t249 x15_1)).bind fun t256 => (if y253.length + t256.length < 17592186044416 then (impl_ancestors.l0 k1 l0 (y253 ++ t256) t249 (t249.length : Int) (wrap64 (x15_1 + 1))) else (none))) = some r := by first | (rw [hy253]; with_reducible exact H) | (have H2_ := (Option.bind_some _ _).symm.trans H; rw [hy253]; with_reducible exact H2_) | (have H2_ := (Option.bind_some _ _).symm.trans H; with_reducible exact H2_) | with_reducible exact H | (rw [hy253]; exact H) | exact H
         have Ny253 := Aside0.mk hy253
         clear hy253
         replace H := Option.bind_eq_some_iff.mp H
         obtain ⟨t256, A140, H⟩ := H
         have A14 := Aside0.mk A140
         clear A140
         by_cases c15 : y253.length + t256.length < 17592186044416
         ·rw [if_pos c15] at H
          have LMc15 := Aside0.mk c15
          clear c15
          obtain ⟨y259, hy259⟩ : ∃ y_ : List Int, y_ = (y253 ++ t256) := ⟨_, rfl⟩
          replace H : (impl_ancestors.l0 k1 l0 y259 t249 (t249.length : Int) (wrap64 (x15_1 + 1))) = some r := by first | (rw [hy259]; with_reducible exact H) | (have H2_ := (Option.bind_some _ _).symm.trans H; rw [hy259]; with_reducible exact H2_) | (have H2_ := (Option.bind_some _ _).symm.trans H; with_reducible exact H2_) | with_reducible exact H | (rw [hy259]; exact H) | exact H
          have Ny259 := Aside0.mk hy259
          clear hy259
          have H' := Aside0.mk H
          clear H
          have p252 : 0 ≤ (x15_1 : Int) := of_decide_eq_true (by first | (with_reducible assumption) | assumption)
          have q252 : x15_1 < (t249.length : Int) := of_decide_eq_true (by first | (with_reducible assumption) | assumption)
          obtain ⟨ad252, e252, hx252_0⟩ := Kd.at_int (Kd.R_reads' HO_13.out).2.2 x15_1 p252 q252
          cases e252
          replace p252 := eq_true p252
          replace q252 := eq_true q252
          go_wp2_with (first | ((with_reducible refine gate_builtin (b := .append) (xs := #[.tmp 19, .tmp 21]) rfl ?_); at_builtin; refine Kd.R_append (Kd.int .i64) (w0 := w) w.heap.size rfl (.tmp 19) (.tmp 21) 31 3 (.int .i64 0) 8 rfl Tryz.underlying31 info3 rfl (by decide) (by omega) u5 x5_1 (rd t249 x15_1) [.int .i64 (rd t249 x15_1)] (fun k_ => some k_ ≠ (.slice (some ad252) t249.length co9 : Value).ownBlock) (fun _ => False) rfl rfl ?aP (fun _ hk => hk.elim) ?aF ?aO ?aB ?aS ?aL ?_; (case aP => exact rfl); (case aB => exact kO); (case aF => exact (fun k_ hk => Kd.fresh' (Kd.R_lt (kW HO_13)) k_ hk)); (case aO => exact (kW HO_5)); (case aS => exact (below_size kO)); (case aL => have := LMc13.out; omega); intro v254 w16 ho hb hg hat; rw [← Ny253.out] at ho; have n0_ := Aside0.mk (Kd.R_after (ok := (fun _ => True)) (by (with_reducible repeat (first | apply Kd.R_alloc | apply Kd.R_drewN | apply Kd.R_drew)); exact Kd.R_mono HO_13.out (fun _ hk => ⟨trivial, hk⟩)) hg hat); have n1_ := Aside0.mk (hb); have n2_ := Aside0.mk (ho); clear HO_13; clear HB; clear HO_5; have HO_13 := n0_; have HB := n1_; have HO255 := n2_; clear n0_ n1_ n2_; clear ho hb hg hat) | ((with_reducible refine gate_callee (f := 38) rfl ?_); refine kE (some 25) Tryz.func38 #[.slice (some ad248) l0.length c0, .int .i64 (rd t249 x15_1)] rfl ?_; (with_reducible refine (ih k1 (by have := HK1.out; omega) _ _ l0 (rd t249 x15_1) t256 _ ?side1 ?side2 A14.out).mono ?_); (case side1 => exact kDb HR0); (case side2 => exact HC0.out); rintro e w17 ⟨v257, rfl, ho0, hb⟩; refine ⟨_, rfl, ?_⟩; have n0_ := Aside0.mk (Kd.R_elder' (kW HO_13) (Kd.R_base ho0) hb); have n1_ := Aside0.mk (Kd.R_elder' (kW HO255) (Kd.R_base ho0) hb); have n2_ := Aside0.mk (Kd.R_lower (Kd.R_new' (Kd.R_new' ho0 (Kd.R_lt (kW HO_13))) (Kd.R_lt (kW HO255))) (below_size kO)); have n3_ := kH HB hb; clear HO_13; clear HO255; clear HB; have HO_13 := n0_; have HO255 := n1_; have HO258 := n2_; have HB := n3_; clear n0_ n1_ n2_ n3_; (try clear hb); (try clear ho0); obtain ⟨Ao19, co19, eo19⟩ := Kd.R_slice HO258.out; subst eo19) | ((with_reducible refine gate_builtin (b := .append) (xs := #[.tmp 22, .tmp 25]) rfl ?_); at_builtin; refine Kd.R_append_rows (Kd.int .i64) (w0 := w) w.heap.size rfl (.tmp 22) (.tmp 25) 31 3 (.int .i64 0) 8 rfl Tryz.underlying31 info3 rfl (by decide) (by omega) v254 y253 t256 _ _ _ (fun k_ => some k_ ≠ (.slice (some ad252) t249.length co9 : Value).ownBlock ∧ some k_ ≠ (.slice Ao19 t256.length co19 : Value).ownBlock) (fun _ => False) rfl rfl ?aO ?aR (fun _ _ h => h) (fun _ h => h.elim) ?aF ?aB ?aS ?aL ?_; (case aR => exact kDo HO258); (case aB => exact kO); (case aF => exact (fun k_ hk => ⟨Kd.fresh' (Kd.R_lt (kW HO_13)) k_ hk, Kd.fresh' (Kd.R_lt (kW HO258)) k_ hk⟩)); (case aO => exact (kW HO255)); (case aS => exact (below_size kO)); (case aL => have := LMc15.out; omega); intro v260 w18 ho hb hg hat; rw [← Ny259.out] at ho; have n0_ := Aside0.mk (Kd.R_after (ok := (fun k_ => some k_ ≠ (.slice Ao19 t256.length co19 : Value).ownBlock)) (by (with_reducible repeat (first | apply Kd.R_alloc | apply Kd.R_drewN | apply Kd.R_drew)); exact Kd.R_mono HO_13.out (fun _ hk => ⟨hk.2, hk.1.2⟩)) hg hat); have n1_ := Aside0.mk (Kd.R_after (ok := (fun k_ => some k_ ≠ (.slice (some ad252) t249.length co9 : Value).ownBlock)) (by (with_reducible repeat (first | apply Kd.R_alloc | apply Kd.R_drewN | apply Kd.R_drew)); exact Kd.R_mono HO258.out (fun _ hk => ⟨hk.1.2, hk.2⟩)) hg hat); have n2_ := Aside0.mk (hb); have n3_ := Aside0.mk (ho); clear HO_13; clear HO258; clear HB; clear HO255; have HO_13 := n0_; have HO258 := n1_; have HB := n2_; have HO261 := n3_; clear n0_ n1_ n2_ n3_; clear ho hb hg hat))
          go_roundg k1
          case measure => have := HK1.out; omega
          case rel => exact ⟨(y259), (wrap64 (x15_1 + 1)), kY, H', ⟨by have := HK1.out; omega⟩, ⟨by (with_reducible repeat (first | apply Kd.R_alloc | apply Kd.R_drewN | apply Kd.R_drew)); exact Kd.R_mono HO261.out (fun _ hk => hk.1)⟩, ⟨by (with_reducible repeat (first | apply Kd.R_alloc | apply Kd.R_drewN | apply Kd.R_drew)); exact Kd.R_mono HO_13.out (fun _ hk => hk.2)⟩, kI⟩
         ·rw [if_neg c15] at H
          exact absurd H (by simp)
        ·rw [if_neg c13] at H
         exact absurd H (by simp)
       ·rw [if_neg c12] at H
        exact absurd H (by simp)
      ·rw [if_neg c11] at H
       exact absurd H (by simp)
     ·rw [if_neg c10] at H
      have c10b0 : decide (x15_1 < (t249.length : Int)) = false := decide_eq_false c10
      clear c10
      replace H := Option.bind_eq_some_iff.mp H
      obtain ⟨t262, A200, H⟩ := H
      have A20 := Aside0.mk A200
      clear A200
      obtain rfl := Option.some.inj H
      obtain ⟨Ao21, co21, eo21⟩ := Kd.R_slice HO_5.out
      subst eo21
      go_wp2_with (first | ((with_reducible refine gate_callee (f := 68) rfl ?_); refine kE (some 29) Tryz.func68 #[.slice Ao21 x5_1.length co21] rfl ?_; (with_reducible refine (impl_distinct.calls _ _ x5_1 t262 _ ?side1 ?side2 A20.out).mono ?_); (case side1 => exact kDo HO_5); (case side2 => exact (Kd.R_reads' HO_5.out).2.1); rintro e w22 ⟨v263, rfl, ho0, hb⟩; refine ⟨_, rfl, ?_⟩; have n0_ := Aside0.mk (Kd.R_elder' (kW HO_5) (Kd.R_base ho0) hb); have n1_ := Aside0.mk (Kd.R_elder' (kW HO_13) (Kd.R_base ho0) hb); have n2_ := Aside0.mk (Kd.R_lower (Kd.R_new' (Kd.R_new' ho0 (Kd.R_lt (kW HO_5))) (Kd.R_lt (kW HO_13))) (below_size kO)); have n3_ := kH HB hb; clear HO_5; clear HO_13; clear HB; have HO_5 := n0_; have HO_13 := n1_; have HO264 := n2_; have HB := n3_; clear n0_ n1_ n2_ n3_; (try clear hb); (try clear ho0)))
      go_ret
      exact ⟨_, kZ, by (with_reducible repeat (first | apply Kd.R_alloc | apply Kd.R_drewN | apply Kd.R_drew)); exact Kd.R_mono HO264.out (fun _ hk => trivial), kO⟩
  ·rw [if_neg c4] at H
   exact absurd H (by simp)
 ·rw [if_neg c3] at H
  exact absurd H (by simp)

/-! ### impl_commonAncestors: function 39 -/
def impl_commonAncestors.f (k : Nat) (l0 : List (S41)) (a1 : Int) (a2 : Int) : Option (List Int) := (impl_ancestors.f k l0 a1).bind fun t265 => ((impl_ancestors.f k l0 a2).bind fun t268 => ((impl_common.f t265 t268).bind fun t271 => (some t271)))
set_option maxHeartbeats 8000000 in
set_option maxRecDepth 100000 in
theorem impl_commonAncestors.calls (k : Nat) (A0 : Option Addr) (c0 : Nat) (l0 : List (S41)) (a1 : Int) (a2 : Int) (r : List Int) (w : World) (hr0 : Kd.C k41 w A0 l0.length l0) (hc0 : l0.length ≤ c0) (h : impl_commonAncestors.f k l0 a1 a2 = some r) :
  Calls Tryz.prog 39 #[.slice A0 l0.length c0, .int .i64 a1, .int .i64 a2] w fun e w' => ∃ v0_ : Value, e = .returned (v0_) ∧ Kd.R (Kd.int .i64) 3 w' w.heap.size (fun _ => True) v0_ r ∧ Below w.heap.size w w' := by
 have HR0 := Aside0.mk hr0
 have HC0 := Aside0.mk hc0
 clear hr0 hc0
 have HB := Aside0.mk (Below.refl w.heap.size w)
 have H : ((impl_ancestors.f k l0 a1).bind fun t265 => ((impl_ancestors.f k l0 a2).bind fun t268 => ((impl_common.f t265 t268).bind fun t271 => (some t271)))) = some r := h
 clear h
 replace H := Option.bind_eq_some_iff.mp H
 obtain ⟨t265, A40, H⟩ := H
 have A4 := Aside0.mk A40
 clear A40
 replace H := Option.bind_eq_some_iff.mp H
 obtain ⟨t268, A50, H⟩ := H
 have A5 := Aside0.mk A50
 clear A50
 replace H := Option.bind_eq_some_iff.mp H
 obtain ⟨t271, A60, H⟩ := H
 have A6 := Aside0.mk A60
 clear A60
 obtain rfl := Option.some.inj H
 go_enter Tryz.func39, Tryz.ntmps39
 go_wp2_with (first | ((with_reducible refine gate_callee (f := 38) rfl ?_); refine kE (some 9) Tryz.func38 #[.slice A0 l0.length c0, .int .i64 a1] rfl ?_; (with_reducible refine (impl_ancestors.calls k _ _ l0 a1 t265 _ ?side1 ?side2 A4.out).mono ?_); (case side1 => exact kD HR0); (case side2 => exact HC0.out); rintro e w7 ⟨v266, rfl, ho0, hb⟩; refine ⟨_, rfl, ?_⟩; have n0_ := Aside0.mk (Kd.R_lower ho0 (below_size kO)); have n1_ := kH HB hb; clear HB; have HO267 := n0_; have HB := n1_; clear n0_ n1_; (try clear hb); (try clear ho0)) | ((with_reducible refine gate_callee (f := 38) rfl ?_); refine kE (some 12) Tryz.func38 #[.slice A0 l0.length c0, .int .i64 a2] rfl ?_; (with_reducible refine (impl_ancestors.calls k _ _ l0 a2 t268 _ ?side1 ?side2 A5.out).mono ?_); (case side1 => exact kDb HR0); (case side2 => exact HC0.out); rintro e w8 ⟨v269, rfl, ho0, hb⟩; refine ⟨_, rfl, ?_⟩; have n0_ := Aside0.mk (Kd.R_elder' (kW HO267) (Kd.R_base ho0) hb); have n1_ := Aside0.mk (Kd.R_lower (Kd.R_new' ho0 (Kd.R_lt (kW HO267))) (below_size kO)); have n2_ := kH HB hb; clear HO267; clear HB; have HO267 := n0_; have HO270 := n1_; have HB := n2_; clear n0_ n1_ n2_; (try clear hb); (try clear ho0); obtain ⟨Ao9, co9, eo9⟩ := Kd.R_slice HO267.out; subst eo9; obtain ⟨Ao10, co10, eo10⟩ := Kd.R_slice HO270.out; subst eo10) | ((with_reducible refine gate_callee (f := 69) rfl ?_); refine kE (some 13) Tryz.func69 #[.slice Ao9 t265.length co9, .slice Ao10 t268.length co10] rfl ?_; (with_reducible refine (impl_common.calls _ _ t265 _ _ t268 t271 _ ?side1 ?side2 ?side3 ?side4 A6.out).mono ?_); (case side1 => exact kDo HO267); (case side2 => exact (Kd.R_reads' HO267.out).2.1); (case side3 => exact kDo HO270); (case side4 => exact (Kd.R_reads' HO270.out).2.1); rintro e w11 ⟨v272, rfl, ho0, hb⟩; refine ⟨_, rfl, ?_⟩; have n0_ := Aside0.mk (Kd.R_elder' (kW HO267) (Kd.R_base ho0) hb); have n1_ := Aside0.mk (Kd.R_elder' (kW HO270) (Kd.R_base ho0) hb); have n2_ := Aside0.mk (Kd.R_lower (Kd.R_new' (Kd.R_new' ho0 (Kd.R_lt (kW HO267))) (Kd.R_lt (kW HO270))) (below_size kO)); have n3_ := kH HB hb; clear HO267; clear HO270; clear HB; have HO267 := n0_; have HO270 := n1_; have HO273 := n2_; have HB := n3_; clear n0_ n1_ n2_ n3_; (try clear hb); (try clear ho0)))
 go_ret
 exact ⟨_, kZ, by (with_reducible repeat (first | apply Kd.R_alloc | apply Kd.R_drewN | apply Kd.R_drew)); exact Kd.R_mono HO273.out (fun _ hk => trivial), kO⟩

end Go.Proofs.YtllihaahppelhaaGreat.P
namespace Go.Proofs.YtllihaahppelhaaGreat.P
open Go.RowKit Go.Proofs.YtllihaahppelhaaGreatW.PrintWords Go.Proofs.YtllihaahppelhaaGreatW.PrintLast Go.Proofs.YtllihaahppelhaaGreatW.PrintMore
attribute [local go_sem] max2_int min2_int max_two min_two max_three min_three max_four min_four   -- for this text's walks alone
set_option linter.unusedVariables false
set_option linter.unusedSimpArgs false

/-! ### impl_RelationOf: function 6, by hand -/
-- IMPORT Derived.Test.YtllihaahppelhaaGreatHlp
def impl_RelationOf.txt (e p1 p2 s g1 g2 u1 u2 c b1 b2 m : Bool) : ByteArray :=
  if e = true then ⟨#[115, 101, 108, 102]⟩ else if p1 = true then ⟨#[112, 97, 114, 101, 110, 116]⟩ else if p2 = true then ⟨#[99, 104, 105, 108, 100]⟩ else if s = true then ⟨#[115, 105, 98, 108, 105, 110, 103]⟩ else
  if g1 = true then ⟨#[103, 114, 97, 110, 100, 112, 97, 114, 101, 110, 116]⟩ else if g2 = true then ⟨#[103, 114, 97, 110, 100, 99, 104, 105, 108, 100]⟩ else if u1 = true then ⟨#[97, 117, 110, 116]⟩ else if u2 = true then ⟨#[110, 105, 101, 99, 101]⟩ else
  if c = true then ⟨#[99, 111, 117, 115, 105, 110]⟩ else if b1 = true then ⟨#[97, 110, 99, 101, 115, 116, 111, 114]⟩ else if b2 = true then ⟨#[100, 101, 115, 99, 101, 110, 100, 97, 110, 116]⟩ else if m = true then ⟨#[107, 105, 110]⟩ else ⟨#[110, 111, 110, 101]⟩
/-- All that is asked, asked at once: for a family all of it is told. -/
def impl_RelationOf.all (k : Nat) (l0 : List S41) (a1 a2 : Int) : Option ByteArray :=
  (impl_isParent.f k l0 a1 a2).bind fun p1 => (impl_isParent.f k l0 a2 a1).bind fun p2 => (impl_areSiblings.f l0 a1 a2).bind fun s => (impl_isGrand.f l0 a1 a2).bind fun g1 => (impl_isGrand.f l0 a2 a1).bind fun g2 =>
  (impl_isAunt.f l0 a1 a2).bind fun u1 => (impl_isAunt.f l0 a2 a1).bind fun u2 => (impl_areCousins.f l0 a1 a2).bind fun c => (impl_ancestors.f k l0 a2).bind fun L2 => (slices_Contains_int_int.f k L2 a1).bind fun b1 =>
  (impl_ancestors.f k l0 a1).bind fun L1 => (slices_Contains_int_int.f k L1 a2).bind fun b2 => (impl_commonAncestors.f k l0 a1 a2).bind fun M => some (impl_RelationOf.txt (a1 == a2) p1 p2 s g1 g2 u1 u2 c b1 b2 (decide (0 < M.length)))
def impl_RelationOf.f (k : Nat) (l0 : List S41) (a1 a2 : Int) : Option (ByteArray × Bool) :=
  (impl_hasKin.f k l0 [a1, a2]).bind fun t => if t = true then (impl_RelationOf.all k l0 a1 a2).bind fun x => some (x, true) else some (⟨#[]⟩, false)
set_option maxHeartbeats 8000000 in
set_option maxRecDepth 100000 in
theorem impl_RelationOf.calls (k : Nat) (A0 : Option Addr) (c0 : Nat) (l0 : List S41) (a1 a2 : Int) (r1 : ByteArray) (r2 : Bool) (w : World) (hr0 : Kd.C k41 w A0 l0.length l0) (hc0 : l0.length ≤ c0) (h : impl_RelationOf.f k l0 a1 a2 = some (r1, r2)) :
    Calls Tryz.prog 6 #[.slice A0 l0.length c0, .int .i64 a1, .int .i64 a2] w fun e w' => e = .returned (.tuple #[.string r1, .bool r2]) ∧ Below w.heap.size w w' := by
  unfold impl_RelationOf.f at h
  obtain ⟨t, ht, h⟩ := Option.bind_eq_some_iff.1 h
  have hb0 : Below w.heap.size w (w.alloc (.cells #[.int .i64 a1, .int .i64 a2] 3)) := (Below.refl _ w).alloc (Nat.le_refl _) _
  have hlit := own_lit w w.heap.size 3 .i64 [a1, a2] (Nat.le_refl _) (by simp)
  have hC2 : Kd.C (Kd.int .i64) (w.alloc (.cells #[.int .i64 a1, .int .i64 a2] 3)) (some ⟨w.heap.size, 0, none⟩) ([a1, a2] : List Int).length [a1, a2] := Kd.C_of_reads (d := (0 : Int)) (h1 := fun _ => rfl) (own_reads' hlit)
  have hkin := impl_hasKin.calls k A0 c0 l0 (some ⟨w.heap.size, 0, none⟩) 2 [a1, a2] t (w.alloc (.cells #[.int .i64 a1, .int .i64 a2] 3)) (Kd.C_below hr0 hb0) hc0 hC2 (by simp) ht
  have HK : Aside0 (Calls Tryz.prog 31 #[.slice A0 l0.length c0, .slice (some ⟨w.heap.size, 0, none⟩) 2 2] (w.alloc (.cells #[.int .i64 a1, .int .i64 a2] 3)) fun e w' => e = .returned (.bool t) ∧ Below w.heap.size w w') := ⟨hkin.mono fun e w' he => ⟨he.1, below_step hb0 he.2⟩⟩
  clear hkin hC2 hlit hb0 ht
  cases t with
  | false =>
    rw [if_neg (by simp)] at h
    obtain ⟨rfl, rfl⟩ := Prod.mk.inj (Option.some.inj h)
    clear h hr0 hc0
    go_enter Tryz.func6, Tryz.ntmps6
    go_wp2_with (go_at_call 31; refine HK.out.mono ?_; rintro e w' ⟨rfl, hb⟩; have HB := Aside0.mk hb; clear hb)
    go_ret2
    exact ⟨rfl, HB.out⟩
  | true =>
    rw [if_pos rfl] at h
    obtain ⟨x, hx, h⟩ := Option.bind_eq_some_iff.1 h
    obtain ⟨rfl, rfl⟩ := Prod.mk.inj (Option.some.inj h)
    clear h
    unfold impl_RelationOf.all at hx
    obtain ⟨p1, e1, hx⟩ := Option.bind_eq_some_iff.1 hx
    obtain ⟨p2, e2, hx⟩ := Option.bind_eq_some_iff.1 hx
    obtain ⟨s, e3, hx⟩ := Option.bind_eq_some_iff.1 hx
    obtain ⟨g1, e4, hx⟩ := Option.bind_eq_some_iff.1 hx
    obtain ⟨g2, e5, hx⟩ := Option.bind_eq_some_iff.1 hx
    obtain ⟨u1, e6, hx⟩ := Option.bind_eq_some_iff.1 hx
    obtain ⟨u2, e7, hx⟩ := Option.bind_eq_some_iff.1 hx
    obtain ⟨c, e8, hx⟩ := Option.bind_eq_some_iff.1 hx
    obtain ⟨L2, e9, hx⟩ := Option.bind_eq_some_iff.1 hx
    obtain ⟨b1, e10, hx⟩ := Option.bind_eq_some_iff.1 hx
    obtain ⟨L1, e11, hx⟩ := Option.bind_eq_some_iff.1 hx
    obtain ⟨b2, e12, hx⟩ := Option.bind_eq_some_iff.1 hx
    obtain ⟨M, e13, hx⟩ := Option.bind_eq_some_iff.1 hx
    obtain rfl := Option.some.inj hx
    clear hx
    have st := fun (W w' : World) (hB : Below w.heap.size w W) (hb : Below W.heap.size W w') => below_step hB hb
    have HC := fun (W : World) (hB : Below w.heap.size w W) => Kd.C_below hr0 hB
    have H1 : Aside0 (∀ W, Below w.heap.size w W → Calls Tryz.prog 32 #[.slice A0 l0.length c0, .int .i64 a1, .int .i64 a2] W fun e w' => e = .returned (.bool p1) ∧ Below w.heap.size w w') := ⟨fun W hB => (impl_isParent.calls k A0 c0 l0 a1 a2 p1 W (HC W hB) hc0 e1).mono fun e w' he => ⟨he.1, st W w' hB he.2⟩⟩
    have H2 : Aside0 (∀ W, Below w.heap.size w W → Calls Tryz.prog 32 #[.slice A0 l0.length c0, .int .i64 a2, .int .i64 a1] W fun e w' => e = .returned (.bool p2) ∧ Below w.heap.size w w') := ⟨fun W hB => (impl_isParent.calls k A0 c0 l0 a2 a1 p2 W (HC W hB) hc0 e2).mono fun e w' he => ⟨he.1, st W w' hB he.2⟩⟩
    have H3 : Aside0 (∀ W, Below w.heap.size w W → Calls Tryz.prog 33 #[.slice A0 l0.length c0, .int .i64 a1, .int .i64 a2] W fun e w' => e = .returned (.bool s) ∧ Below w.heap.size w w') := ⟨fun W hB => (impl_areSiblings.calls A0 c0 l0 a1 a2 s W (HC W hB) hc0 e3).mono fun e w' he => ⟨he.1, st W w' hB he.2⟩⟩
    have H4 : Aside0 (∀ W, Below w.heap.size w W → Calls Tryz.prog 34 #[.slice A0 l0.length c0, .int .i64 a1, .int .i64 a2] W fun e w' => e = .returned (.bool g1) ∧ Below w.heap.size w w') := ⟨fun W hB => (impl_isGrand.calls A0 c0 l0 a1 a2 g1 W (HC W hB) hc0 e4).mono fun e w' he => ⟨he.1, st W w' hB he.2⟩⟩
    have H5 : Aside0 (∀ W, Below w.heap.size w W → Calls Tryz.prog 34 #[.slice A0 l0.length c0, .int .i64 a2, .int .i64 a1] W fun e w' => e = .returned (.bool g2) ∧ Below w.heap.size w w') := ⟨fun W hB => (impl_isGrand.calls A0 c0 l0 a2 a1 g2 W (HC W hB) hc0 e5).mono fun e w' he => ⟨he.1, st W w' hB he.2⟩⟩
    have H6 : Aside0 (∀ W, Below w.heap.size w W → Calls Tryz.prog 35 #[.slice A0 l0.length c0, .int .i64 a1, .int .i64 a2] W fun e w' => e = .returned (.bool u1) ∧ Below w.heap.size w w') := ⟨fun W hB => (impl_isAunt.calls A0 c0 l0 a1 a2 u1 W (HC W hB) hc0 e6).mono fun e w' he => ⟨he.1, st W w' hB he.2⟩⟩
    have H7 : Aside0 (∀ W, Below w.heap.size w W → Calls Tryz.prog 35 #[.slice A0 l0.length c0, .int .i64 a2, .int .i64 a1] W fun e w' => e = .returned (.bool u2) ∧ Below w.heap.size w w') := ⟨fun W hB => (impl_isAunt.calls A0 c0 l0 a2 a1 u2 W (HC W hB) hc0 e7).mono fun e w' he => ⟨he.1, st W w' hB he.2⟩⟩
    have H8 : Aside0 (∀ W, Below w.heap.size w W → Calls Tryz.prog 36 #[.slice A0 l0.length c0, .int .i64 a1, .int .i64 a2] W fun e w' => e = .returned (.bool c) ∧ Below w.heap.size w w') := ⟨fun W hB => (impl_areCousins.calls A0 c0 l0 a1 a2 c W (HC W hB) hc0 e8).mono fun e w' he => ⟨he.1, st W w' hB he.2⟩⟩
    have hrow : ∀ (W w' : World) (v : Value) (L : List Int), Below w.heap.size w W → Kd.R (Kd.int .i64) 3 w' W.heap.size (fun _ => True) v L → Below W.heap.size W w' → ∃ A cc, v = .slice A L.length cc ∧ Aside0 (Kd.C (Kd.int .i64) w' A L.length L ∧ L.length ≤ cc ∧ Below w.heap.size w w') := by
      intro W w' v L hB hR hb
      obtain ⟨A, cc, rfl, hl, hC⟩ := Kd.R_reads hR
      exact ⟨A, cc, rfl, ⟨hC, hl, st W w' hB hb⟩⟩
    have H9 : Aside0 (∀ W, Below w.heap.size w W → Calls Tryz.prog 38 #[.slice A0 l0.length c0, .int .i64 a2] W fun e w' => ∃ A cc, e = .returned (.slice A L2.length cc) ∧ Aside0 (Kd.C (Kd.int .i64) w' A L2.length L2 ∧ L2.length ≤ cc ∧ Below w.heap.size w w')) := ⟨fun W hB => (impl_ancestors.calls k A0 c0 l0 a2 L2 W (HC W hB) hc0 e9).mono fun e w' he => by
      obtain ⟨v, rfl, hR, hb⟩ := he
      obtain ⟨A, cc, rfl, h⟩ := hrow W w' v L2 hB hR hb
      exact ⟨A, cc, rfl, h⟩⟩
    have H11 : Aside0 (∀ W, Below w.heap.size w W → Calls Tryz.prog 38 #[.slice A0 l0.length c0, .int .i64 a1] W fun e w' => ∃ A cc, e = .returned (.slice A L1.length cc) ∧ Aside0 (Kd.C (Kd.int .i64) w' A L1.length L1 ∧ L1.length ≤ cc ∧ Below w.heap.size w w')) := ⟨fun W hB => (impl_ancestors.calls k A0 c0 l0 a1 L1 W (HC W hB) hc0 e11).mono fun e w' he => by
      obtain ⟨v, rfl, hR, hb⟩ := he
      obtain ⟨A, cc, rfl, h⟩ := hrow W w' v L1 hB hR hb
      exact ⟨A, cc, rfl, h⟩⟩
    have H13 : Aside0 (∀ W, Below w.heap.size w W → Calls Tryz.prog 39 #[.slice A0 l0.length c0, .int .i64 a1, .int .i64 a2] W fun e w' => ∃ A cc, e = .returned (.slice A M.length cc) ∧ Aside0 (Kd.C (Kd.int .i64) w' A M.length M ∧ M.length ≤ cc ∧ Below w.heap.size w w')) := ⟨fun W hB => (impl_commonAncestors.calls k A0 c0 l0 a1 a2 M W (HC W hB) hc0 e13).mono fun e w' he => by
      obtain ⟨v, rfl, hR, hb⟩ := he
      obtain ⟨A, cc, rfl, h⟩ := hrow W w' v M hB hR hb
      exact ⟨A, cc, rfl, h⟩⟩
    have H10 : Aside0 (∀ W A cc, Kd.C (Kd.int .i64) W A L2.length L2 ∧ L2.length ≤ cc ∧ Below w.heap.size w W → Calls Tryz.prog 37 #[.slice A L2.length cc, .int .i64 a1] W fun e w' => e = .returned (.bool b1) ∧ Below w.heap.size w w') := ⟨fun W A cc hB => (slices_Contains_int_int.calls k A cc L2 a1 b1 W hB.1 hB.2.1 e10).mono fun e w' he => ⟨he.1, st W w' hB.2.2 he.2.below⟩⟩
    have H12 : Aside0 (∀ W A cc, Kd.C (Kd.int .i64) W A L1.length L1 ∧ L1.length ≤ cc ∧ Below w.heap.size w W → Calls Tryz.prog 37 #[.slice A L1.length cc, .int .i64 a2] W fun e w' => e = .returned (.bool b2) ∧ Below w.heap.size w w') := ⟨fun W A cc hB => (slices_Contains_int_int.calls k A cc L1 a2 b2 W hB.1 hB.2.1 e12).mono fun e w' he => ⟨he.1, st W w' hB.2.2 he.2.below⟩⟩
    have hM : M.length ≤ 9223372036854775807 ∨ True := .inr trivial
    clear e1 e2 e3 e4 e5 e6 e7 e8 e9 e10 e11 e12 e13 hr0 hc0 hM hrow HC st
    obtain ⟨m, hm⟩ : ∃ m : Bool, decide (0 < M.length) = m := ⟨_, rfl⟩
    rw [hm]
    by_cases he : a1 = a2
    · have h0 : (a1 == a2) = true := beq_iff_eq.2 he
      rw [h0]
      have HM := Aside0.mk hm
      clear hm he
      go_enter Tryz.func6, Tryz.ntmps6
      go_wp2_with (go_at_call 31; refine HK.out.mono ?_; rintro e w' ⟨rfl, hb⟩; have HB := Aside0.mk hb; clear hb)
      go_ret2
      exact ⟨rfl, HB.out⟩
    · have h0 : (a1 == a2) = false := beq_eq_false_iff_ne.2 he
      rw [h0]
      clear he
      go_enter Tryz.func6, Tryz.ntmps6
      go_wp2_with (first | (go_at_call 31; refine HK.out.mono ?_; rintro e w' ⟨rfl, hb⟩; have HB := Aside0.mk hb; clear hb HK) | (go_at_call 32; ((with_reducible refine (H1.out _ HB.out).mono ?_); clear H1); rintro e w' ⟨rfl, hb⟩; clear HB; have HB := Aside0.mk hb; clear hb) | (go_at_call 32; ((with_reducible refine (H2.out _ HB.out).mono ?_); clear H2); rintro e w' ⟨rfl, hb⟩; clear HB; have HB := Aside0.mk hb; clear hb) | (go_at_call 33; ((with_reducible refine (H3.out _ HB.out).mono ?_); clear H3); rintro e w' ⟨rfl, hb⟩; clear HB; have HB := Aside0.mk hb; clear hb) | (go_at_call 34; ((with_reducible refine (H4.out _ HB.out).mono ?_); clear H4); rintro e w' ⟨rfl, hb⟩; clear HB; have HB := Aside0.mk hb; clear hb) | (go_at_call 34; ((with_reducible refine (H5.out _ HB.out).mono ?_); clear H5); rintro e w' ⟨rfl, hb⟩; clear HB; have HB := Aside0.mk hb; clear hb) | (go_at_call 35; ((with_reducible refine (H6.out _ HB.out).mono ?_); clear H6); rintro e w' ⟨rfl, hb⟩; clear HB; have HB := Aside0.mk hb; clear hb) | (go_at_call 35; ((with_reducible refine (H7.out _ HB.out).mono ?_); clear H7); rintro e w' ⟨rfl, hb⟩; clear HB; have HB := Aside0.mk hb; clear hb) | (go_at_call 36; ((with_reducible refine (H8.out _ HB.out).mono ?_); clear H8); rintro e w' ⟨rfl, hb⟩; clear HB; have HB := Aside0.mk hb; clear hb) | (go_at_call 38; ((with_reducible refine (H9.out _ HB.out).mono ?_); clear H9); rintro e w' ⟨A2, cc2, rfl, hR2⟩; clear HB; have HB := Aside0.mk hR2.out.2.2) | (go_at_call 37; ((with_reducible refine (H10.out _ _ _ hR2.out).mono ?_); clear H10 hR2); rintro e w' ⟨rfl, hb⟩; clear HB; have HB := Aside0.mk hb; clear hb) | (go_at_call 38; ((with_reducible refine (H11.out _ HB.out).mono ?_); clear H11); rintro e w' ⟨A1, cc1, rfl, hR1⟩; clear HB; have HB := Aside0.mk hR1.out.2.2) | (go_at_call 37; ((with_reducible refine (H12.out _ _ _ hR1.out).mono ?_); clear H12 hR1); rintro e w' ⟨rfl, hb⟩; clear HB; have HB := Aside0.mk hb; clear hb) | (go_at_call 39; ((with_reducible refine (H13.out _ HB.out).mono ?_); clear H13); rintro e w' ⟨A3, cc3, rfl, hR3⟩; clear HB; have HB := Aside0.mk hR3.out.2.2))
      all_goals
        go_ret2
        refine ⟨?_, HB.out⟩
        first | rfl | (simp [impl_RelationOf.txt, *]; done) | (congr 3; simp_all [impl_RelationOf.txt])

end Go.Proofs.YtllihaahppelhaaGreat.P
