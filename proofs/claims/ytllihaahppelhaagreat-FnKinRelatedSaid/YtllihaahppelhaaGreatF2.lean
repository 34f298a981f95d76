/- Calls of the functions of the given program return what the plain Lean functions of the same names return; and a row of a law out of its pure statement. Written by a program of this session out of the translation; Lean checks it. No condition. -/
import Derived.Test.YtllihaahppelhaaGreatPx0
import Derived.Test.YtllihaahppelhaaGreatCt
namespace Go.Proofs.YtllihaahppelhaaGreat.P
open Go.RowKit Go.Proofs.YtllihaahppelhaaGreatW.PrintWords Go.Proofs.YtllihaahppelhaaGreatW.PrintLast Go.Proofs.YtllihaahppelhaaGreatW.PrintMore
attribute [local go_sem] max2_int min2_int max_two min_two max_three min_three max_four min_four   -- for this text's walks alone
set_option linter.unusedVariables false
set_option linter.unusedSimpArgs false

/-! ### spec_l1In: function 71 -/
def spec_l1In.f (a0 : Int) (a1 : Int) (a2 : Int) : Option (Bool) := if a0 ≥ a1 then (some (decide (a0 ≤ a2))) else (some false)
set_option maxHeartbeats 8000000 in
set_option maxRecDepth 100000 in
theorem spec_l1In.calls (a0 : Int) (a1 : Int) (a2 : Int) (r : Bool) (w : World) (h : spec_l1In.f a0 a1 a2 = some r) :
  Calls Tryz.prog 71 #[.int .i64 a0, .int .i64 a1, .int .i64 a2] w fun e w' => e = .returned (.bool r) ∧ Drawn0 w w' := by
 have H : (if a0 ≥ a1 then (some (decide (a0 ≤ a2))) else (some false)) = some r := h
 clear h
 by_cases c4 : a0 ≥ a1
 ·rw [if_pos c4] at H
  have c4b0 : decide (a1 ≤ a0) = true := decide_eq_true c4
  clear c4
  obtain rfl := Option.some.inj H
  go_enter Tryz.func71, Tryz.ntmps71
  go_wp2
  go_ret
  exact ⟨by first | rfl | (simp; done) | (simp [*]; done), by repeat (first | exact Drawn0.refl _ | apply Drawn0.step)⟩
 ·rw [if_neg c4] at H
  have c4b0 : decide (a1 ≤ a0) = false := decide_eq_false c4
  clear c4
  obtain rfl := Option.some.inj H
  go_enter Tryz.func71, Tryz.ntmps71
  go_wp2
  go_ret
  exact ⟨by first | rfl | (simp; done) | (simp [*]; done), by repeat (first | exact Drawn0.refl _ | apply Drawn0.step)⟩

/-! ### spec_faOlder: function 90 -/
def spec_faOlder.f (l0 : List (S41)) (a1 : Int) (a2 : Int) : Option (Bool) := (spec_l1In.f a1 0 (wrap64 ((l0.length : Int) - 1))).bind fun t274 => (if t274 = true then (if 0 ≤ a1 then (if a1 < (l0.length : Int) then (some (decide ((wrap64 (a2 - ((rd_T41 l0 a1).f0))) ≥ 14))) else (none)) else (none)) else (some false))
set_option maxHeartbeats 8000000 in
set_option maxRecDepth 100000 in
theorem spec_faOlder.calls (A0 : Option Addr) (c0 : Nat) (l0 : List (S41)) (a1 : Int) (a2 : Int) (r : Bool) (w : World) (hr0 : Kd.C k41 w A0 l0.length l0) (hc0 : l0.length ≤ c0) (h : spec_faOlder.f l0 a1 a2 = some r) :
  Calls Tryz.prog 90 #[.slice A0 l0.length c0, .int .i64 a1, .int .i64 a2] w fun e w' => e = .returned (.bool r) ∧ Drawn0 w w' := by
 have HR0 := Aside0.mk hr0
 have HC0 := Aside0.mk hc0
 clear hr0 hc0
 have H : ((spec_l1In.f a1 0 (wrap64 ((l0.length : Int) - 1))).bind fun t274 => (if t274 = true then (if 0 ≤ a1 then (if a1 < (l0.length : Int) then (some (decide ((wrap64 (a2 - ((rd_T41 l0 a1).f0))) ≥ 14))) else (none)) else (none)) else (some false))) = some r := h
 clear h
 replace H := Option.bind_eq_some_iff.mp H
 obtain ⟨t274, A40, H⟩ := H
 have A4 := Aside0.mk A40
 clear A40
 by_cases c5 : t274 = true
 ·subst c5
  rw [if_pos rfl] at H
  by_cases c6 : 0 ≤ a1
  ·rw [if_pos c6] at H
   have c6b0 : decide (0 ≤ a1) = true := decide_eq_true c6
   clear c6
   by_cases c7 : a1 < (l0.length : Int)
   ·rw [if_pos c7] at H
    have c7b0 : decide (a1 < (l0.length : Int)) = true := decide_eq_true c7
    clear c7
    obtain rfl := Option.some.inj H
    go_enter Tryz.func90, Tryz.ntmps90
    go_wp2_with (first | ((with_reducible refine gate_callee (f := 71) rfl ?_); refine kE (some 11) Tryz.func71 #[.int .i64 a1, .int .i64 0, .int .i64 (wrap64 ((l0.length : Int) - 1))] rfl ?_; (with_reducible refine (spec_l1In.calls a1 0 (wrap64 ((l0.length : Int) - 1)) true _ A4.out).mono ?_); rintro e w' ⟨rfl, ⟨nd, rfl⟩⟩; refine ⟨_, rfl, ?_⟩; have p275 : 0 ≤ (a1 : Int) := of_decide_eq_true (by first | (with_reducible assumption) | assumption); have q275 : a1 < (l0.length : Int) := of_decide_eq_true (by first | (with_reducible assumption) | assumption); obtain ⟨ad275, e275, hx275_0, hx275_1, hx275_2⟩ := at_T41 HR0.out a1 p275 q275; cases e275; replace p275 := eq_true p275; replace q275 := eq_true q275))
    go_ret
    exact ⟨by first | rfl | (simp; done) | (simp [*]; done), by repeat (first | exact Drawn0.refl _ | apply Drawn0.step)⟩
   ·rw [if_neg c7] at H
    exact absurd H (by simp)
  ·rw [if_neg c6] at H
   exact absurd H (by simp)
 ·replace c5 := Bool.eq_false_iff.mpr c5
  subst c5
  rw [if_neg (show ¬ (false = true) by decide)] at H
  obtain rfl := Option.some.inj H
  go_enter Tryz.func90, Tryz.ntmps90
  go_wp2_with (first | ((with_reducible refine gate_callee (f := 71) rfl ?_); refine kE (some 11) Tryz.func71 #[.int .i64 a1, .int .i64 0, .int .i64 (wrap64 ((l0.length : Int) - 1))] rfl ?_; (with_reducible refine (spec_l1In.calls a1 0 (wrap64 ((l0.length : Int) - 1)) false _ A4.out).mono ?_); rintro e w' ⟨rfl, ⟨nd, rfl⟩⟩; refine ⟨_, rfl, ?_⟩))
  go_ret
  exact ⟨by first | rfl | (simp; done) | (simp [*]; done), by repeat (first | exact Drawn0.refl _ | apply Drawn0.step)⟩

/-! ### spec_faFits: function 80 -/
def spec_faFits.f (l0 : List (S41)) (a1_0 : Int) (a1_1 : Int) (a1_2 : Int) : Option (Bool) := (spec_l1In.f a1_0 0 3000).bind fun t277 => (if t277 = true then (if a1_1 = (-1) then (some (a1_2 == (-1))) else ((spec_faOlder.f l0 a1_1 a1_0).bind fun t278 => (if t278 = true then (if a1_2 = (-1) then (some true) else (if a1_1 < a1_2 then ((spec_faOlder.f l0 a1_2 a1_0).bind fun t279 => (some t279)) else (some false))) else (some false)))) else (some false))
set_option maxHeartbeats 8000000 in
set_option maxRecDepth 100000 in
theorem spec_faFits.calls (A0 : Option Addr) (c0 : Nat) (l0 : List (S41)) (a1_0 : Int) (a1_1 : Int) (a1_2 : Int) (r : Bool) (w : World) (hr0 : Kd.C k41 w A0 l0.length l0) (hc0 : l0.length ≤ c0) (h : spec_faFits.f l0 a1_0 a1_1 a1_2 = some r) :
  Calls Tryz.prog 80 #[.slice A0 l0.length c0, .agg #[.int .i64 a1_0, .int .i64 a1_1, .int .i64 a1_2]] w fun e w' => e = .returned (.bool r) ∧ Below w.heap.size w w' := by
 have hu41 := Tryz.underlying41
 have HR0 := Aside0.mk hr0
 have HC0 := Aside0.mk hc0
 clear hr0 hc0
 have HB := Aside0.mk (Below.refl w.heap.size w)
 have H : ((spec_l1In.f a1_0 0 3000).bind fun t277 => (if t277 = true then (if a1_1 = (-1) then (some (a1_2 == (-1))) else ((spec_faOlder.f l0 a1_1 a1_0).bind fun t278 => (if t278 = true then (if a1_2 = (-1) then (some true) else (if a1_1 < a1_2 then ((spec_faOlder.f l0 a1_2 a1_0).bind fun t279 => (some t279)) else (some false))) else (some false)))) else (some false))) = some r := h
 clear h
 replace H := Option.bind_eq_some_iff.mp H
 obtain ⟨t277, A30, H⟩ := H
 have A3 := Aside0.mk A30
 clear A30
 by_cases c4 : t277 = true
 ·subst c4
  rw [if_pos rfl] at H
  by_cases c5 : a1_1 = (-1)
  ·rw [if_pos c5] at H
   have c5b0 : (a1_1 == (-1)) = true := beq_iff_eq.mpr c5
   have c5b1 : (a1_1 != (-1)) = false := bne_eq_false_iff_eq.mpr c5
   clear c5
   obtain rfl := Option.some.inj H
   go_enter Tryz.func80, Tryz.ntmps80
   go_wp2_with (first | ((with_reducible refine gate_dst (N := 3) rfl ?_); refine box_event ?hg (N := 3) ?hd (cs := #[.int .i64 a1_0, .int .i64 a1_1, .int .i64 a1_2]) (t := 41) ?hr ?_; (case hd => rfl); (case hg => rfl); (case hr => first | (go_simp; done) | (go_simp; rfl)); intro gb276 hg w6 hbox hb; have n0_ := kH HB hb; have n1_ := Aside0.mk (hbox); have n2_ := kG HB hg; have n3_ := kG HB hg; replace HB := n0_; have BK276 := n1_; have GW276 := n2_; have GE276 := n3_; clear n0_ n1_ n2_ n3_; clear hb hbox hg; have hcz7_0 : w6.cell? ⟨gb276, 0, none⟩ = some (.int .i64 a1_0) := (blk_cell BK276.out 0).trans rfl; have hcz7_1 : w6.cell? ⟨gb276, 1, none⟩ = some (.int .i64 a1_1) := (blk_cell BK276.out 1).trans rfl; have hcz7_2 : w6.cell? ⟨gb276, 2, none⟩ = some (.int .i64 a1_2) := (blk_cell BK276.out 2).trans rfl; have hfz7_0 := blk_frozen BK276.out 0; have hfz7_1 := blk_frozen BK276.out 1; have hfz7_2 := blk_frozen BK276.out 2) | ((with_reducible refine gate_callee (f := 71) rfl ?_); refine kE (some 7) Tryz.func71 #[.int .i64 a1_0, .int .i64 0, .int .i64 3000] rfl ?_; (with_reducible refine (spec_l1In.calls a1_0 0 3000 true _ A3.out).mono ?_); rintro e w' ⟨rfl, ⟨nd, rfl⟩⟩; refine ⟨_, rfl, ?_⟩))
   go_ret
   exact ⟨kZ, kO⟩
  ·rw [if_neg c5] at H
   have c5b0 : (a1_1 == (-1)) = false := beq_eq_false_iff_ne.mpr c5
   have c5b1 : (a1_1 != (-1)) = true := bne_iff_ne.mpr c5
   replace H := Option.bind_eq_some_iff.mp H
   obtain ⟨t278, A80, H⟩ := H
   have A8 := Aside0.mk A80
   clear A80
   by_cases c9 : t278 = true
   ·subst c9
    rw [if_pos rfl] at H
    by_cases c10 : a1_2 = (-1)
    ·rw [if_pos c10] at H
     have c10b0 : (a1_2 == (-1)) = true := beq_iff_eq.mpr c10
     have c10b1 : (a1_2 != (-1)) = false := bne_eq_false_iff_eq.mpr c10
     clear c10
     obtain rfl := Option.some.inj H
     go_enter Tryz.func80, Tryz.ntmps80
     go_wp2_with (first | ((with_reducible refine gate_dst (N := 3) rfl ?_); refine box_event ?hg (N := 3) ?hd (cs := #[.int .i64 a1_0, .int .i64 a1_1, .int .i64 a1_2]) (t := 41) ?hr ?_; (case hd => rfl); (case hg => rfl); (case hr => first | (go_simp; done) | (go_simp; rfl)); intro gb276 hg w11 hbox hb; have n0_ := kH HB hb; have n1_ := Aside0.mk (hbox); have n2_ := kG HB hg; have n3_ := kG HB hg; replace HB := n0_; have BK276 := n1_; have GW276 := n2_; have GE276 := n3_; clear n0_ n1_ n2_ n3_; clear hb hbox hg; have hcz12_0 : w11.cell? ⟨gb276, 0, none⟩ = some (.int .i64 a1_0) := (blk_cell BK276.out 0).trans rfl; have hcz12_1 : w11.cell? ⟨gb276, 1, none⟩ = some (.int .i64 a1_1) := (blk_cell BK276.out 1).trans rfl; have hcz12_2 : w11.cell? ⟨gb276, 2, none⟩ = some (.int .i64 a1_2) := (blk_cell BK276.out 2).trans rfl; have hfz12_0 := blk_frozen BK276.out 0; have hfz12_1 := blk_frozen BK276.out 1; have hfz12_2 := blk_frozen BK276.out 2) | ((with_reducible refine gate_callee (f := 71) rfl ?_); refine kE (some 7) Tryz.func71 #[.int .i64 a1_0, .int .i64 0, .int .i64 3000] rfl ?_; (with_reducible refine (spec_l1In.calls a1_0 0 3000 true _ A3.out).mono ?_); rintro e w' ⟨rfl, ⟨nd, rfl⟩⟩; refine ⟨_, rfl, ?_⟩) | ((with_reducible refine gate_callee (f := 90) rfl ?_); refine kE (some 20) Tryz.func90 #[.slice A0 l0.length c0, .int .i64 a1_1, .int .i64 a1_0] rfl ?_; (with_reducible refine (spec_faOlder.calls _ _ l0 a1_1 a1_0 true _ ?side1 ?side2 A8.out).mono ?_); (case side1 => exact kDb HR0); (case side2 => exact HC0.out); rintro e w' ⟨rfl, ⟨nd, rfl⟩⟩; refine ⟨_, rfl, ?_⟩))
     go_ret
     exact ⟨kZ, kO⟩
    ·rw [if_neg c10] at H
     have c10b0 : (a1_2 == (-1)) = false := beq_eq_false_iff_ne.mpr c10
     have c10b1 : (a1_2 != (-1)) = true := bne_iff_ne.mpr c10
     by_cases c13 : a1_1 < a1_2
     ·rw [if_pos c13] at H
      have c13b0 : decide (a1_1 < a1_2) = true := decide_eq_true c13
      clear c13
      replace H := Option.bind_eq_some_iff.mp H
      obtain ⟨t279, A140, H⟩ := H
      have A14 := Aside0.mk A140
      clear A140
      obtain rfl := Option.some.inj H
      go_enter Tryz.func80, Tryz.ntmps80
      go_wp2_with (first | ((with_reducible refine gate_dst (N := 3) rfl ?_); refine box_event ?hg (N := 3) ?hd (cs := #[.int .i64 a1_0, .int .i64 a1_1, .int .i64 a1_2]) (t := 41) ?hr ?_; (case hd => rfl); (case hg => rfl); (case hr => first | (go_simp; done) | (go_simp; rfl)); intro gb276 hg w15 hbox hb; have n0_ := kH HB hb; have n1_ := Aside0.mk (hbox); have n2_ := kG HB hg; have n3_ := kG HB hg; replace HB := n0_; have BK276 := n1_; have GW276 := n2_; have GE276 := n3_; clear n0_ n1_ n2_ n3_; clear hb hbox hg; have hcz16_0 : w15.cell? ⟨gb276, 0, none⟩ = some (.int .i64 a1_0) := (blk_cell BK276.out 0).trans rfl; have hcz16_1 : w15.cell? ⟨gb276, 1, none⟩ = some (.int .i64 a1_1) := (blk_cell BK276.out 1).trans rfl; have hcz16_2 : w15.cell? ⟨gb276, 2, none⟩ = some (.int .i64 a1_2) := (blk_cell BK276.out 2).trans rfl; have hfz16_0 := blk_frozen BK276.out 0; have hfz16_1 := blk_frozen BK276.out 1; have hfz16_2 := blk_frozen BK276.out 2) | ((with_reducible refine gate_callee (f := 71) rfl ?_); refine kE (some 7) Tryz.func71 #[.int .i64 a1_0, .int .i64 0, .int .i64 3000] rfl ?_; (with_reducible refine (spec_l1In.calls a1_0 0 3000 true _ A3.out).mono ?_); rintro e w' ⟨rfl, ⟨nd, rfl⟩⟩; refine ⟨_, rfl, ?_⟩) | ((with_reducible refine gate_callee (f := 90) rfl ?_); refine kE (some 20) Tryz.func90 #[.slice A0 l0.length c0, .int .i64 a1_1, .int .i64 a1_0] rfl ?_; (with_reducible refine (spec_faOlder.calls _ _ l0 a1_1 a1_0 true _ ?side1 ?side2 A8.out).mono ?_); (case side1 => exact kDb HR0); (case side2 => exact HC0.out); rintro e w' ⟨rfl, ⟨nd, rfl⟩⟩; refine ⟨_, rfl, ?_⟩) | (go_at_call 90; (with_reducible refine (spec_faOlder.calls _ _ l0 a1_2 a1_0 t279 _ ?side1 ?side2 A14.out).mono ?_); (case side1 => exact kDb HR0); (case side2 => exact HC0.out); rintro e w' ⟨rfl, ⟨nd, rfl⟩⟩))
      go_ret
      exact ⟨kZ, kO⟩
     ·rw [if_neg c13] at H
      have c13b0 : decide (a1_1 < a1_2) = false := decide_eq_false c13
      clear c13
      obtain rfl := Option.some.inj H
      go_enter Tryz.func80, Tryz.ntmps80
      go_wp2_with (first | ((with_reducible refine gate_dst (N := 3) rfl ?_); refine box_event ?hg (N := 3) ?hd (cs := #[.int .i64 a1_0, .int .i64 a1_1, .int .i64 a1_2]) (t := 41) ?hr ?_; (case hd => rfl); (case hg => rfl); (case hr => first | (go_simp; done) | (go_simp; rfl)); intro gb276 hg w17 hbox hb; have n0_ := kH HB hb; have n1_ := Aside0.mk (hbox); have n2_ := kG HB hg; have n3_ := kG HB hg; replace HB := n0_; have BK276 := n1_; have GW276 := n2_; have GE276 := n3_; clear n0_ n1_ n2_ n3_; clear hb hbox hg; have hcz18_0 : w17.cell? ⟨gb276, 0, none⟩ = some (.int .i64 a1_0) := (blk_cell BK276.out 0).trans rfl; have hcz18_1 : w17.cell? ⟨gb276, 1, none⟩ = some (.int .i64 a1_1) := (blk_cell BK276.out 1).trans rfl; have hcz18_2 : w17.cell? ⟨gb276, 2, none⟩ = some (.int .i64 a1_2) := (blk_cell BK276.out 2).trans rfl; have hfz18_0 := blk_frozen BK276.out 0; have hfz18_1 := blk_frozen BK276.out 1; have hfz18_2 := blk_frozen BK276.out 2) | ((with_reducible refine gate_callee (f := 71) rfl ?_); refine kE (some 7) Tryz.func71 #[.int .i64 a1_0, .int .i64 0, .int .i64 3000] rfl ?_; (with_reducible refine (spec_l1In.calls a1_0 0 3000 true _ A3.out).mono ?_); rintro e w' ⟨rfl, ⟨nd, rfl⟩⟩; refine ⟨_, rfl, ?_⟩) | ((with_reducible refine gate_callee (f := 90) rfl ?_); refine kE (some 20) Tryz.func90 #[.slice A0 l0.length c0, .int .i64 a1_1, .int .i64 a1_0] rfl ?_; (with_reducible refine (spec_faOlder.calls _ _ l0 a1_1 a1_0 true _ ?side1 ?side2 A8.out).mono ?_); (case side1 => exact kDb HR0); (case side2 => exact HC0.out); rintro e w' ⟨rfl, ⟨nd, rfl⟩⟩; refine ⟨_, rfl, ?_⟩))
      go_ret
      exact ⟨kZ, kO⟩
   ·replace c9 := Bool.eq_false_iff.mpr c9
    subst c9
    rw [if_neg (show ¬ (false = true) by decide)] at H
    obtain rfl := Option.some.inj H
    go_enter Tryz.func80, Tryz.ntmps80
    go_wp2_with (first | ((with_reducible refine gate_dst (N := 3) rfl ?_); refine box_event ?hg (N := 3) ?hd (cs := #[.int .i64 a1_0, .int .i64 a1_1, .int .i64 a1_2]) (t := 41) ?hr ?_; (case hd => rfl); (case hg => rfl); (case hr => first | (go_simp; done) | (go_simp; rfl)); intro gb276 hg w19 hbox hb; have n0_ := kH HB hb; have n1_ := Aside0.mk (hbox); have n2_ := kG HB hg; have n3_ := kG HB hg; replace HB := n0_; have BK276 := n1_; have GW276 := n2_; have GE276 := n3_; clear n0_ n1_ n2_ n3_; clear hb hbox hg; have hcz20_0 : w19.cell? ⟨gb276, 0, none⟩ = some (.int .i64 a1_0) := (blk_cell BK276.out 0).trans rfl; have hcz20_1 : w19.cell? ⟨gb276, 1, none⟩ = some (.int .i64 a1_1) := (blk_cell BK276.out 1).trans rfl; have hcz20_2 : w19.cell? ⟨gb276, 2, none⟩ = some (.int .i64 a1_2) := (blk_cell BK276.out 2).trans rfl; have hfz20_0 := blk_frozen BK276.out 0; have hfz20_1 := blk_frozen BK276.out 1; have hfz20_2 := blk_frozen BK276.out 2) | ((with_reducible refine gate_callee (f := 71) rfl ?_); refine kE (some 7) Tryz.func71 #[.int .i64 a1_0, .int .i64 0, .int .i64 3000] rfl ?_; (with_reducible refine (spec_l1In.calls a1_0 0 3000 true _ A3.out).mono ?_); rintro e w' ⟨rfl, ⟨nd, rfl⟩⟩; refine ⟨_, rfl, ?_⟩) | ((with_reducible refine gate_callee (f := 90) rfl ?_); refine kE (some 20) Tryz.func90 #[.slice A0 l0.length c0, .int .i64 a1_1, .int .i64 a1_0] rfl ?_; (with_reducible refine (spec_faOlder.calls _ _ l0 a1_1 a1_0 false _ ?side1 ?side2 A8.out).mono ?_); (case side1 => exact kDb HR0); (case side2 => exact HC0.out); rintro e w' ⟨rfl, ⟨nd, rfl⟩⟩; refine ⟨_, rfl, ?_⟩))
    go_ret
    exact ⟨kZ, kO⟩
 ·replace c4 := Bool.eq_false_iff.mpr c4
  subst c4
  rw [if_neg (show ¬ (false = true) by decide)] at H
  obtain rfl := Option.some.inj H
  go_enter Tryz.func80, Tryz.ntmps80
  go_wp2_with (first | ((with_reducible refine gate_dst (N := 3) rfl ?_); refine box_event ?hg (N := 3) ?hd (cs := #[.int .i64 a1_0, .int .i64 a1_1, .int .i64 a1_2]) (t := 41) ?hr ?_; (case hd => rfl); (case hg => rfl); (case hr => first | (go_simp; done) | (go_simp; rfl)); intro gb276 hg w21 hbox hb; have n0_ := kH HB hb; have n1_ := Aside0.mk (hbox); have n2_ := kG HB hg; have n3_ := kG HB hg; replace HB := n0_; have BK276 := n1_; have GW276 := n2_; have GE276 := n3_; clear n0_ n1_ n2_ n3_; clear hb hbox hg; have hcz22_0 : w21.cell? ⟨gb276, 0, none⟩ = some (.int .i64 a1_0) := (blk_cell BK276.out 0).trans rfl; have hcz22_1 : w21.cell? ⟨gb276, 1, none⟩ = some (.int .i64 a1_1) := (blk_cell BK276.out 1).trans rfl; have hcz22_2 : w21.cell? ⟨gb276, 2, none⟩ = some (.int .i64 a1_2) := (blk_cell BK276.out 2).trans rfl; have hfz22_0 := blk_frozen BK276.out 0; have hfz22_1 := blk_frozen BK276.out 1; have hfz22_2 := blk_frozen BK276.out 2) | ((with_reducible refine gate_callee (f := 71) rfl ?_); refine kE (some 7) Tryz.func71 #[.int .i64 a1_0, .int .i64 0, .int .i64 3000] rfl ?_; (with_reducible refine (spec_l1In.calls a1_0 0 3000 false _ A3.out).mono ?_); rintro e w' ⟨rfl, ⟨nd, rfl⟩⟩; refine ⟨_, rfl, ?_⟩))
  go_ret
  exact ⟨kZ, kO⟩

/-! ### spec_faGood: function 59 -/
def spec_faGood.l0 : Nat → List (S41) → List (S41) → Int → Int → Option (Bool)
 | 0, _, _, _, _ => none
 | k + 1, x0, x9, x10, x11 => if x11 < x10 then (if 0 ≤ x11 then (if x11 < (x9.length : Int) then (if x11 ≤ (x0.length : Int) then ((spec_faFits.f (x0.take (x11 : Int).toNat) ((rd_T41 x9 x11).f0) ((rd_T41 x9 x11).f1) ((rd_T41 x9 x11).f2)).bind fun t287 => (if t287 = true then (spec_faGood.l0 k x0 x9 x10 (wrap64 (x11 + 1))) else (some false))) else (none)) else (none)) else (none)) else (some true)
def spec_faGood.f (k : Nat) (l0 : List (S41)) : Option (Bool) := (spec_l1In.f (l0.length : Int) 1 14).bind fun t280 => (if t280 = true then (spec_faGood.l0 k l0 l0 (l0.length : Int) 0) else (some false))
set_option maxHeartbeats 8000000 in
set_option maxRecDepth 100000 in
theorem spec_faGood.calls (k : Nat) (A0 : Option Addr) (c0 : Nat) (l0 : List (S41)) (r : Bool) (w : World) (hr0 : Kd.C k41 w A0 l0.length l0) (hc0 : l0.length ≤ c0) (h : spec_faGood.f k l0 = some r) :
  Calls Tryz.prog 59 #[.slice A0 l0.length c0] w fun e w' => e = .returned (.bool r) ∧ Below w.heap.size w w' := by
 have hu41 := Tryz.underlying41
 have HR0 := Aside0.mk hr0
 have HC0 := Aside0.mk hc0
 clear hr0 hc0
 have HB := Aside0.mk (Below.refl w.heap.size w)
 have H : ((spec_l1In.f (l0.length : Int) 1 14).bind fun t280 => (if t280 = true then (spec_faGood.l0 k l0 l0 (l0.length : Int) 0) else (some false))) = some r := h
 clear h
 replace H := Option.bind_eq_some_iff.mp H
 obtain ⟨t280, A20, H⟩ := H
 have A2 := Aside0.mk A20
 clear A20
 by_cases c3 : t280 = true
 ·subst c3
  rw [if_pos rfl] at H
  have H' := Aside0.mk H
  clear H
  go_enter Tryz.func59, Tryz.ntmps59
  go_wp2_with (first | ((with_reducible refine gate_callee (f := 71) rfl ?_); refine kE (some 7) Tryz.func71 #[.int .i64 (l0.length : Int), .int .i64 1, .int .i64 14] rfl ?_; (with_reducible refine (spec_l1In.calls (l0.length : Int) 1 14 true _ A2.out).mono ?_); rintro e w' ⟨rfl, ⟨nd, rfl⟩⟩; refine ⟨_, rfl, ?_⟩))
  go_loopg [11] k (fun kq v11 w' => ∃ (x11_1 : Int), v11 = .int .i64 x11_1 ∧ Aside0 (spec_faGood.l0 kq l0 l0 (l0.length : Int) x11_1 = some r) ∧ Aside0 (kq ≤ k) ∧ Aside0 (Below w.heap.size w w'))
  case atStart => exact ⟨(0), kY, H', ⟨Nat.le_refl _⟩, kI⟩
  case round =>
   clear H'
   try clear c3
   obtain ⟨x11_1, rfl, HA, HK1, HB⟩ := hrel
   cases gk with
   | zero => exact absurd HA.out (by simp [spec_faGood.l0])
   | succ k1 =>
    have H := HA.out
    clear HA
    simp only [spec_faGood.l0] at H
    by_cases c4 : x11_1 < (l0.length : Int)
    ·rw [if_pos c4] at H
     have c4b0 : decide (x11_1 < (l0.length : Int)) = true := decide_eq_true c4
     clear c4
     by_cases c5 : 0 ≤ x11_1
     ·rw [if_pos c5] at H
      have c5b0 : decide (0 ≤ x11_1) = true := decide_eq_true c5
      clear c5
      by_cases c6 : x11_1 < (l0.length : Int)
      ·rw [if_pos c6] at H
       have c6b0 : decide (x11_1 < (l0.length : Int)) = true := decide_eq_true c6
       clear c6
       have c7b0 := eq_true (of_decide_eq_true (by first | (with_reducible assumption) | assumption) : 0 ≤ x11_1)
       by_cases c8 : x11_1 ≤ (l0.length : Int)
       ·rw [if_pos c8] at H
        have c8b0 := eq_true c8
        have c8b1 : decide (x11_1 ≤ (l0.length : Int)) = true := decide_eq_true c8
        clear c8
        obtain ⟨y283, hy283⟩ : ∃ y_ : List (S41), y_ = (l0.take (x11_1 : Int).toNat) := ⟨_, rfl⟩
        replace H : ((spec_faFits.f y283 ((rd_T41 l0 x11_1).f0) ((rd_T41 l0 x11_1).f1) ((rd_T41 l0 x11_1).f2)).bind fun t287 => (if t287 = true then (spec_faGood.l0 k1 l0 l0 (l0.length : Int) (wrap64 (x11_1 + 1))) else (some false))) = some r := by first | (rw [hy283]; with_reducible exact H) | (have H2_ := (Option.bind_some _ _).symm.trans H; rw [hy283]; with_reducible exact H2_) | (have H2_ := (Option.bind_some _ _).symm.trans H; with_reducible exact H2_) | with_reducible exact H | (rw [hy283]; exact H) | exact H
        have Ny283 := Aside0.mk hy283
        clear hy283
        replace H := Option.bind_eq_some_iff.mp H
        obtain ⟨t287, A90, H⟩ := H
        have A9 := Aside0.mk A90
        clear A90
        by_cases c10 : t287 = true
        ·subst c10
         rw [if_pos rfl] at H
         have H' := Aside0.mk H
         clear H
         have p281 : 0 ≤ (x11_1 : Int) := of_decide_eq_true (by first | (with_reducible assumption) | assumption)
         have q281 : x11_1 < (l0.length : Int) := of_decide_eq_true (by first | (with_reducible assumption) | assumption)
         obtain ⟨ad281, e281, hx281_0, hx281_1, hx281_2⟩ := at_T41 HR0.out x11_1 p281 q281
         cases e281
         replace hx281_0 := (HB.out.cell (World.block_lt_of_cell? w _ hx281_0)).trans hx281_0
         replace hx281_1 := (HB.out.cell (World.block_lt_of_cell? w _ hx281_1)).trans hx281_1
         replace hx281_2 := (HB.out.cell (World.block_lt_of_cell? w _ hx281_2)).trans hx281_2
         replace p281 := eq_true p281
         replace q281 := eq_true q281
         try go_wp2_with (first | ((with_reducible refine gate_dst (N := 4) rfl ?_); refine box_event ?hg (N := 4) ?hd (cs := #[.int .i64 0, .int .i64 0, .int .i64 0]) (t := 41) ?hr ?_; (case hd => rfl); (case hg => rfl); (case hr => first | (go_simp; done) | (go_simp; rfl)); intro gb282 hg w11 hbox hb; have n0_ := kH HB hb; have n1_ := Aside0.mk (hbox); have n2_ := kG HB hg; have n3_ := kG HB hg; replace HB := n0_; have BK282 := n1_; have GW282 := n2_; have GE282 := n3_; clear n0_ n1_ n2_ n3_; clear hb hbox hg; have hcz12_0 : w11.cell? ⟨gb282, 0, none⟩ = some (.int .i64 0) := (blk_cell BK282.out 0).trans rfl; have hcz12_1 : w11.cell? ⟨gb282, 1, none⟩ = some (.int .i64 0) := (blk_cell BK282.out 1).trans rfl; have hcz12_2 : w11.cell? ⟨gb282, 2, none⟩ = some (.int .i64 0) := (blk_cell BK282.out 2).trans rfl; have hfz12_0 := blk_frozen BK282.out 0; have hfz12_1 := blk_frozen BK282.out 1; have hfz12_2 := blk_frozen BK282.out 2))
         have n0_ : Aside0 ((((w11.setCell ⟨gb282, 0, none⟩ (.int .i64 ((rd_T41 l0 x11_1).f0))).setCell ⟨gb282, 1, none⟩ (.int .i64 ((rd_T41 l0 x11_1).f1))).setCell ⟨gb282, 2, none⟩ (.int .i64 ((rd_T41 l0 x11_1).f2))).heap[gb282]? = some (.cells #[.int .i64 ((rd_T41 l0 x11_1).f0), .int .i64 ((rd_T41 l0 x11_1).f1), .int .i64 ((rd_T41 l0 x11_1).f2)] 41 (0, 0))) := ⟨by (with_reducible repeat (first | refine blk_drewN ?_ _ | refine blk_drew ?_ | refine blk_alloc ?_ _)); refine blk_put (cs := #[.int .i64 ((rd_T41 l0 x11_1).f0), .int .i64 ((rd_T41 l0 x11_1).f1), .int .i64 0]) ?_ 2 _ rfl; (with_reducible repeat (first | refine blk_drewN ?_ _ | refine blk_drew ?_ | refine blk_alloc ?_ _)); refine blk_put (cs := #[.int .i64 ((rd_T41 l0 x11_1).f0), .int .i64 0, .int .i64 0]) ?_ 1 _ rfl; (with_reducible repeat (first | refine blk_drewN ?_ _ | refine blk_drew ?_ | refine blk_alloc ?_ _)); refine blk_put (cs := #[.int .i64 0, .int .i64 0, .int .i64 0]) ?_ 0 _ rfl; (with_reducible repeat (first | refine blk_drewN ?_ _ | refine blk_drew ?_ | refine blk_alloc ?_ _)); exact BK282.out⟩
         have n1_ : Aside0 (Below w.heap.size w (((w11.setCell ⟨gb282, 0, none⟩ (.int .i64 ((rd_T41 l0 x11_1).f0))).setCell ⟨gb282, 1, none⟩ (.int .i64 ((rd_T41 l0 x11_1).f1))).setCell ⟨gb282, 2, none⟩ (.int .i64 ((rd_T41 l0 x11_1).f2)))) := kI
         (try clear HB)
         generalize (((w11.setCell ⟨gb282, 0, none⟩ (.int .i64 ((rd_T41 l0 x11_1).f0))).setCell ⟨gb282, 1, none⟩ (.int .i64 ((rd_T41 l0 x11_1).f1))).setCell ⟨gb282, 2, none⟩ (.int .i64 ((rd_T41 l0 x11_1).f2))) = w13 at n0_ n1_ ⊢
         have BK282 := n0_
         have HB := n1_
         clear n0_ n1_
         have n0_ := Aside0.mk (blk_drew BK282.out)
         have n1_ := Aside0.mk (below_drew1 HB.out)
         clear BK282
         clear HB
         have BK282 := n0_
         have HB := n1_
         clear n0_ n1_
         have q15 : (x11_1 : Int) ≤ ((l0.length : Int) : Int) := of_decide_eq_true (by first | (with_reducible assumption) | assumption)
         obtain ⟨i015, hi015, _, hsz15, _⟩ := info_parts info41
         have hroom15 : l0.length ≤ c0 := HC0.out
         have hC15 : Kd.C k41 _ (some ad281) l0.length l0 := HR0.out
         have hcut15 := cut_to (P := Tryz.prog) 24 41 .i64 Tryz.underlying24 hi015 (some ad281) l0.length c0 x11_1 (of_decide_eq_true (by first | (with_reducible assumption) | assumption)) q15 hroom15
         have hr15 := Kd.C_take (m := (x11_1 : Int).toNat) hC15 (by omega)
         have hy15 : y283.length = (x11_1 : Int).toNat := (by rw [Ny283.out, List.length_take]; omega)
         rw [← Ny283.out] at hr15
         rw [← hy15] at hcut15
         have HR286 := Aside0.mk hr15
         have HC286 := Aside0.mk (show y283.length ≤ c0 from by omega)
         clear hr15 hC15 hroom15 hi015 hsz15
         have KY15 := Aside0.mk hy15
         clear hy15
         replace q15 := eq_true q15
         refine start_ (n := 6) (S := fun w' => w'.cell? ⟨gb282, 0, none⟩ = some (.int .i64 ((rd_T41 l0 x11_1).f0)) ∧ w'.cell? ⟨gb282, 1, none⟩ = some (.int .i64 ((rd_T41 l0 x11_1).f1)) ∧ w'.cell? ⟨gb282, 2, none⟩ = some (.int .i64 ((rd_T41 l0 x11_1).f2))) (ds := []) #[false, false, false, false, false, false] (by kernel_rfl) rfl rfl ⟨(blk_cell BK282.out 0).trans rfl, (blk_cell BK282.out 1).trans rfl, (blk_cell BK282.out 2).trans rfl⟩ (fun hHeld => ?_)
         generalize w13.drew = w14 at BK282 HB HR286 hHeld ⊢
         refine pure_ (i := 0) (N := some 16) (v := ?_) (a' := ?_) #[true, false, false, false, false, false] rfl rfl (by kernel_rfl) (fun _ _ _ h => h) (Or.inl ⟨by rfl, ?_⟩) ?_ ?_
         rotate_left
         ·intro w'
          go_simp
          with_reducible rfl
         rotate_left
         ·simp only [Act.put, List.setIfInBounds_toArray, List.set_cons_zero, List.set_cons_succ, i64_w, i32_w]
          rfl
         refine pure_ (i := 1) (N := some 17) (v := ?_) (a' := ?_) #[true, true, false, false, false, false] rfl rfl (by kernel_rfl) (fun _ _ _ h => h) (Or.inl ⟨by rfl, ?_⟩) ?_ ?_
         rotate_left
         ·intro w'
          go_simp
          with_reducible rfl
         rotate_left
         ·simp only [Act.put, List.setIfInBounds_toArray, List.set_cons_zero, List.set_cons_succ, i64_w, i32_w]
          rfl
         refine pure_ (i := 2) (N := some 18) (v := ?_) (a' := ?_) #[true, true, true, false, false, false] rfl rfl (by kernel_rfl) (fun _ _ _ h => h) (Or.inl ⟨by rfl, ?_⟩) ?_ ?_
         rotate_left
         ·intro w'
          go_simp
          with_reducible rfl
         rotate_left
         ·simp only [Act.put, List.setIfInBounds_toArray, List.set_cons_zero, List.set_cons_succ, i64_w, i32_w]
          rfl
         refine take_ (i := 3) (N := some 19) (v := ?_) (a' := ?_) #[true, true, true, true, false, false] rfl rfl (by kernel_rfl) (fun _ _ _ h => h) (Or.inl ⟨by rfl, ?_⟩) hHeld ?_ ?_
         rotate_left
         ·rintro w' ⟨s0, s1, s2⟩
          go_simp
          with_reducible rfl
         rotate_left
         ·simp only [Act.put, List.setIfInBounds_toArray, List.set_cons_zero, List.set_cons_succ, i64_w, i32_w]
          rfl
         refine one_ (i := 4) (N := some 20) #[true, true, true, true, true, false] rfl rfl (by kernel_rfl) (by decide) (fun K hK => ?_)
         refine goes_ Tryz.func80 (by kernel_rfl) rfl #[.slice (some ad281) y283.length c0, .agg #[.int .i64 ((rd_T41 l0 x11_1).f0), .int .i64 ((rd_T41 l0 x11_1).f1), .int .i64 ((rd_T41 l0 x11_1).f2)]] (by rfl) rfl rfl (by (try simp only [List.map_toArray, List.map_cons, List.map_nil]); first | done | rfl | (simp only [List.length_drop, List.length_take]; rfl)) ?_
         with_reducible refine (spec_faFits.calls _ _ y283 ((rd_T41 l0 x11_1).f0) ((rd_T41 l0 x11_1).f1) ((rd_T41 l0 x11_1).f2) true _ ?side1 ?side2 A9.out).mono ?_
         (case side1 => exact kDb HR286)
         (case side2 => exact HC286.out)
         rintro e w16 ⟨rfl, hb⟩
         refine ⟨_, rfl, ?_⟩
         have n0_ := kB BK282 hb
         have n1_ := kH HB hb
         clear BK282
         clear HB
         have BK282 := n0_
         have HB := n1_
         clear n0_ n1_
         refine hK.out _ _ ⟨(blk_cell BK282.out 0).trans rfl, (blk_cell BK282.out 1).trans rfl, (blk_cell BK282.out 2).trans rfl⟩ (fun hHeld => ?_)
         clear hK K
         refine norm_ (a' := ?_) ?_ ?_
         rotate_left
         ·show Act.put _ (some 20) _ = _
          simp only [Act.put, List.setIfInBounds_toArray, List.set_cons_zero, List.set_cons_succ, i64_w, i32_w]
          rfl
         refine pure_ (i := 5) (N := some 21) (v := ?_) (a' := ?_) #[true, true, true, true, true, true] rfl rfl (by kernel_rfl) (fun _ _ _ h => h) (Or.inl ⟨by rfl, ?_⟩) ?_ ?_
         rotate_left
         ·intro w'
          go_simp
          with_reducible rfl
         rotate_left
         ·simp only [Act.put, List.setIfInBounds_toArray, List.set_cons_zero, List.set_cons_succ, i64_w, i32_w]
          rfl
         refine done_ (by kernel_rfl) ?_
         try go_wp2
         go_roundg k1
         case measure => have := HK1.out; omega
         case rel => exact ⟨(wrap64 (x11_1 + 1)), kY, H', ⟨by have := HK1.out; omega⟩, kI⟩
        ·replace c10 := Bool.eq_false_iff.mpr c10
         subst c10
         rw [if_neg (show ¬ (false = true) by decide)] at H
         obtain rfl := Option.some.inj H
         have p281 : 0 ≤ (x11_1 : Int) := of_decide_eq_true (by first | (with_reducible assumption) | assumption)
         have q281 : x11_1 < (l0.length : Int) := of_decide_eq_true (by first | (with_reducible assumption) | assumption)
         obtain ⟨ad281, e281, hx281_0, hx281_1, hx281_2⟩ := at_T41 HR0.out x11_1 p281 q281
         cases e281
         replace hx281_0 := (HB.out.cell (World.block_lt_of_cell? w _ hx281_0)).trans hx281_0
         replace hx281_1 := (HB.out.cell (World.block_lt_of_cell? w _ hx281_1)).trans hx281_1
         replace hx281_2 := (HB.out.cell (World.block_lt_of_cell? w _ hx281_2)).trans hx281_2
         replace p281 := eq_true p281
         replace q281 := eq_true q281
         try go_wp2_with (first | ((with_reducible refine gate_dst (N := 4) rfl ?_); refine box_event ?hg (N := 4) ?hd (cs := #[.int .i64 0, .int .i64 0, .int .i64 0]) (t := 41) ?hr ?_; (case hd => rfl); (case hg => rfl); (case hr => first | (go_simp; done) | (go_simp; rfl)); intro gb282 hg w17 hbox hb; have n0_ := kH HB hb; have n1_ := Aside0.mk (hbox); have n2_ := kG HB hg; have n3_ := kG HB hg; replace HB := n0_; have BK282 := n1_; have GW282 := n2_; have GE282 := n3_; clear n0_ n1_ n2_ n3_; clear hb hbox hg; have hcz18_0 : w17.cell? ⟨gb282, 0, none⟩ = some (.int .i64 0) := (blk_cell BK282.out 0).trans rfl; have hcz18_1 : w17.cell? ⟨gb282, 1, none⟩ = some (.int .i64 0) := (blk_cell BK282.out 1).trans rfl; have hcz18_2 : w17.cell? ⟨gb282, 2, none⟩ = some (.int .i64 0) := (blk_cell BK282.out 2).trans rfl; have hfz18_0 := blk_frozen BK282.out 0; have hfz18_1 := blk_frozen BK282.out 1; have hfz18_2 := blk_frozen BK282.out 2))
         have n0_ : Aside0 ((((w17.setCell ⟨gb282, 0, none⟩ (.int .i64 ((rd_T41 l0 x11_1).f0))).setCell ⟨gb282, 1, none⟩ (.int .i64 ((rd_T41 l0 x11_1).f1))).setCell ⟨gb282, 2, none⟩ (.int .i64 ((rd_T41 l0 x11_1).f2))).heap[gb282]? = some (.cells #[.int .i64 ((rd_T41 l0 x11_1).f0), .int .i64 ((rd_T41 l0 x11_1).f1), .int .i64 ((rd_T41 l0 x11_1).f2)] 41 (0, 0))) := ⟨by (with_reducible repeat (first | refine blk_drewN ?_ _ | refine blk_drew ?_ | refine blk_alloc ?_ _)); refine blk_put (cs := #[.int .i64 ((rd_T41 l0 x11_1).f0), .int .i64 ((rd_T41 l0 x11_1).f1), .int .i64 0]) ?_ 2 _ rfl; (with_reducible repeat (first | refine blk_drewN ?_ _ | refine blk_drew ?_ | refine blk_alloc ?_ _)); refine blk_put (cs := #[.int .i64 ((rd_T41 l0 x11_1).f0), .int .i64 0, .int .i64 0]) ?_ 1 _ rfl; (with_reducible repeat (first | refine blk_drewN ?_ _ | refine blk_drew ?_ | refine blk_alloc ?_ _)); refine blk_put (cs := #[.int .i64 0, .int .i64 0, .int .i64 0]) ?_ 0 _ rfl; (with_reducible repeat (first | refine blk_drewN ?_ _ | refine blk_drew ?_ | refine blk_alloc ?_ _)); exact BK282.out⟩
         have n1_ : Aside0 (Below w.heap.size w (((w17.setCell ⟨gb282, 0, none⟩ (.int .i64 ((rd_T41 l0 x11_1).f0))).setCell ⟨gb282, 1, none⟩ (.int .i64 ((rd_T41 l0 x11_1).f1))).setCell ⟨gb282, 2, none⟩ (.int .i64 ((rd_T41 l0 x11_1).f2)))) := kI
         (try clear HB)
         generalize (((w17.setCell ⟨gb282, 0, none⟩ (.int .i64 ((rd_T41 l0 x11_1).f0))).setCell ⟨gb282, 1, none⟩ (.int .i64 ((rd_T41 l0 x11_1).f1))).setCell ⟨gb282, 2, none⟩ (.int .i64 ((rd_T41 l0 x11_1).f2))) = w19 at n0_ n1_ ⊢
         have BK282 := n0_
         have HB := n1_
         clear n0_ n1_
         have n0_ := Aside0.mk (blk_drew BK282.out)
         have n1_ := Aside0.mk (below_drew1 HB.out)
         clear BK282
         clear HB
         have BK282 := n0_
         have HB := n1_
         clear n0_ n1_
         have q21 : (x11_1 : Int) ≤ ((l0.length : Int) : Int) := of_decide_eq_true (by first | (with_reducible assumption) | assumption)
         obtain ⟨i021, hi021, _, hsz21, _⟩ := info_parts info41
         have hroom21 : l0.length ≤ c0 := HC0.out
         have hC21 : Kd.C k41 _ (some ad281) l0.length l0 := HR0.out
         have hcut21 := cut_to (P := Tryz.prog) 24 41 .i64 Tryz.underlying24 hi021 (some ad281) l0.length c0 x11_1 (of_decide_eq_true (by first | (with_reducible assumption) | assumption)) q21 hroom21
         have hr21 := Kd.C_take (m := (x11_1 : Int).toNat) hC21 (by omega)
         have hy21 : y283.length = (x11_1 : Int).toNat := (by rw [Ny283.out, List.length_take]; omega)
         rw [← Ny283.out] at hr21
         rw [← hy21] at hcut21
         have HR286 := Aside0.mk hr21
         have HC286 := Aside0.mk (show y283.length ≤ c0 from by omega)
         clear hr21 hC21 hroom21 hi021 hsz21
         have KY21 := Aside0.mk hy21
         clear hy21
         replace q21 := eq_true q21
         refine start_ (n := 6) (S := fun w' => w'.cell? ⟨gb282, 0, none⟩ = some (.int .i64 ((rd_T41 l0 x11_1).f0)) ∧ w'.cell? ⟨gb282, 1, none⟩ = some (.int .i64 ((rd_T41 l0 x11_1).f1)) ∧ w'.cell? ⟨gb282, 2, none⟩ = some (.int .i64 ((rd_T41 l0 x11_1).f2))) (ds := []) #[false, false, false, false, false, false] (by kernel_rfl) rfl rfl ⟨(blk_cell BK282.out 0).trans rfl, (blk_cell BK282.out 1).trans rfl, (blk_cell BK282.out 2).trans rfl⟩ (fun hHeld => ?_)
         generalize w19.drew = w20 at BK282 HB HR286 hHeld ⊢
         refine pure_ (i := 0) (N := some 16) (v := ?_) (a' := ?_) #[true, false, false, false, false, false] rfl rfl (by kernel_rfl) (fun _ _ _ h => h) (Or.inl ⟨by rfl, ?_⟩) ?_ ?_
         rotate_left
         ·intro w'
          go_simp
          with_reducible rfl
         rotate_left
         ·simp only [Act.put, List.setIfInBounds_toArray, List.set_cons_zero, List.set_cons_succ, i64_w, i32_w]
          rfl
         refine pure_ (i := 1) (N := some 17) (v := ?_) (a' := ?_) #[true, true, false, false, false, false] rfl rfl (by kernel_rfl) (fun _ _ _ h => h) (Or.inl ⟨by rfl, ?_⟩) ?_ ?_
         rotate_left
         ·intro w'
          go_simp
          with_reducible rfl
         rotate_left
         ·simp only [Act.put, List.setIfInBounds_toArray, List.set_cons_zero, List.set_cons_succ, i64_w, i32_w]
          rfl
         refine pure_ (i := 2) (N := some 18) (v := ?_) (a' := ?_) #[true, true, true, false, false, false] rfl rfl (by kernel_rfl) (fun _ _ _ h => h) (Or.inl ⟨by rfl, ?_⟩) ?_ ?_
         rotate_left
         ·intro w'
          go_simp
          with_reducible rfl
         rotate_left
         ·simp only [Act.put, List.setIfInBounds_toArray, List.set_cons_zero, List.set_cons_succ, i64_w, i32_w]
          rfl
         refine take_ (i := 3) (N := some 19) (v := ?_) (a' := ?_) #[true, true, true, true, false, false] rfl rfl (by kernel_rfl) (fun _ _ _ h => h) (Or.inl ⟨by rfl, ?_⟩) hHeld ?_ ?_
         rotate_left
         ·rintro w' ⟨s0, s1, s2⟩
          go_simp
          with_reducible rfl
         rotate_left
         ·simp only [Act.put, List.setIfInBounds_toArray, List.set_cons_zero, List.set_cons_succ, i64_w, i32_w]
          rfl
         refine one_ (i := 4) (N := some 20) #[true, true, true, true, true, false] rfl rfl (by kernel_rfl) (by decide) (fun K hK => ?_)
         refine goes_ Tryz.func80 (by kernel_rfl) rfl #[.slice (some ad281) y283.length c0, .agg #[.int .i64 ((rd_T41 l0 x11_1).f0), .int .i64 ((rd_T41 l0 x11_1).f1), .int .i64 ((rd_T41 l0 x11_1).f2)]] (by rfl) rfl rfl (by (try simp only [List.map_toArray, List.map_cons, List.map_nil]); first | done | rfl | (simp only [List.length_drop, List.length_take]; rfl)) ?_
         with_reducible refine (spec_faFits.calls _ _ y283 ((rd_T41 l0 x11_1).f0) ((rd_T41 l0 x11_1).f1) ((rd_T41 l0 x11_1).f2) false _ ?side1 ?side2 A9.out).mono ?_
         (case side1 => exact kDb HR286)
         (case side2 => exact HC286.out)
         rintro e w22 ⟨rfl, hb⟩
         refine ⟨_, rfl, ?_⟩
         have n0_ := kB BK282 hb
         have n1_ := kH HB hb
         clear BK282
         clear HB
         have BK282 := n0_
         have HB := n1_
         clear n0_ n1_
         refine hK.out _ _ ⟨(blk_cell BK282.out 0).trans rfl, (blk_cell BK282.out 1).trans rfl, (blk_cell BK282.out 2).trans rfl⟩ (fun hHeld => ?_)
         clear hK K
         refine norm_ (a' := ?_) ?_ ?_
         rotate_left
         ·show Act.put _ (some 20) _ = _
          simp only [Act.put, List.setIfInBounds_toArray, List.set_cons_zero, List.set_cons_succ, i64_w, i32_w]
          rfl
         refine pure_ (i := 5) (N := some 21) (v := ?_) (a' := ?_) #[true, true, true, true, true, true] rfl rfl (by kernel_rfl) (fun _ _ _ h => h) (Or.inl ⟨by rfl, ?_⟩) ?_ ?_
         rotate_left
         ·intro w'
          go_simp
          with_reducible rfl
         rotate_left
         ·simp only [Act.put, List.setIfInBounds_toArray, List.set_cons_zero, List.set_cons_succ, i64_w, i32_w]
          rfl
         refine done_ (by kernel_rfl) ?_
         try go_wp2
         go_ret
         exact ⟨kZ, kO⟩
       ·rw [if_neg c8] at H
        exact absurd H (by simp)
      ·rw [if_neg c6] at H
       exact absurd H (by simp)
     ·rw [if_neg c5] at H
      exact absurd H (by simp)
    ·rw [if_neg c4] at H
     have c4b0 : decide (x11_1 < (l0.length : Int)) = false := decide_eq_false c4
     clear c4
     obtain rfl := Option.some.inj H
     go_wp2
     go_ret
     exact ⟨kZ, kO⟩
 ·replace c3 := Bool.eq_false_iff.mpr c3
  subst c3
  rw [if_neg (show ¬ (false = true) by decide)] at H
  obtain rfl := Option.some.inj H
  go_enter Tryz.func59, Tryz.ntmps59
  go_wp2_with (first | ((with_reducible refine gate_callee (f := 71) rfl ?_); refine kE (some 7) Tryz.func71 #[.int .i64 (l0.length : Int), .int .i64 1, .int .i64 14] rfl ?_; (with_reducible refine (spec_l1In.calls (l0.length : Int) 1 14 false _ A2.out).mono ?_); rintro e w' ⟨rfl, ⟨nd, rfl⟩⟩; refine ⟨_, rfl, ?_⟩))
  go_ret
  exact ⟨kZ, kO⟩

/-! ### spec_faWho: function 70 -/
def spec_faWho.f (k : Nat) (l0 : List (S41)) (a1 : Int) : Option (Bool) := (spec_faGood.f k l0).bind fun t288 => (if t288 = true then ((spec_l1In.f a1 0 (wrap64 ((l0.length : Int) - 1))).bind fun t289 => (some t289)) else (some false))
set_option maxHeartbeats 8000000 in
set_option maxRecDepth 100000 in
theorem spec_faWho.calls (k : Nat) (A0 : Option Addr) (c0 : Nat) (l0 : List (S41)) (a1 : Int) (r : Bool) (w : World) (hr0 : Kd.C k41 w A0 l0.length l0) (hc0 : l0.length ≤ c0) (h : spec_faWho.f k l0 a1 = some r) :
  Calls Tryz.prog 70 #[.slice A0 l0.length c0, .int .i64 a1] w fun e w' => e = .returned (.bool r) ∧ Below w.heap.size w w' := by
 have HR0 := Aside0.mk hr0
 have HC0 := Aside0.mk hc0
 clear hr0 hc0
 have HB := Aside0.mk (Below.refl w.heap.size w)
 have H : ((spec_faGood.f k l0).bind fun t288 => (if t288 = true then ((spec_l1In.f a1 0 (wrap64 ((l0.length : Int) - 1))).bind fun t289 => (some t289)) else (some false))) = some r := h
 clear h
 replace H := Option.bind_eq_some_iff.mp H
 obtain ⟨t288, A30, H⟩ := H
 have A3 := Aside0.mk A30
 clear A30
 by_cases c4 : t288 = true
 ·subst c4
  rw [if_pos rfl] at H
  replace H := Option.bind_eq_some_iff.mp H
  obtain ⟨t289, A50, H⟩ := H
  have A5 := Aside0.mk A50
  clear A50
  obtain rfl := Option.some.inj H
  go_enter Tryz.func70, Tryz.ntmps70
  go_wp2_with (first | ((with_reducible refine gate_callee (f := 59) rfl ?_); refine kE (some 6) Tryz.func59 #[.slice A0 l0.length c0] rfl ?_; (with_reducible refine (spec_faGood.calls k _ _ l0 true _ ?side1 ?side2 A3.out).mono ?_); (case side1 => exact kD HR0); (case side2 => exact HC0.out); rintro e w6 ⟨rfl, hb⟩; refine ⟨_, rfl, ?_⟩; replace HB := kH HB hb; (try clear hb)) | (go_at_call 71; (with_reducible refine (spec_l1In.calls a1 0 (wrap64 ((l0.length : Int) - 1)) t289 _ A5.out).mono ?_); rintro e w' ⟨rfl, ⟨nd, rfl⟩⟩))
  go_ret
  exact ⟨kZ, kO⟩
 ·replace c4 := Bool.eq_false_iff.mpr c4
  subst c4
  rw [if_neg (show ¬ (false = true) by decide)] at H
  obtain rfl := Option.some.inj H
  go_enter Tryz.func70, Tryz.ntmps70
  go_wp2_with (first | ((with_reducible refine gate_callee (f := 59) rfl ?_); refine kE (some 6) Tryz.func59 #[.slice A0 l0.length c0] rfl ?_; (with_reducible refine (spec_faGood.calls k _ _ l0 false _ ?side1 ?side2 A3.out).mono ?_); (case side1 => exact kD HR0); (case side2 => exact HC0.out); rintro e w7 ⟨rfl, hb⟩; refine ⟨_, rfl, ?_⟩; replace HB := kH HB hb; (try clear hb)))
  go_ret
  exact ⟨kZ, kO⟩

/-! ### spec_faTwo: function 40 -/
def spec_faTwo.f (k : Nat) (l0 : List (S41)) (a1 : Int) (a2 : Int) : Option (Bool) := (spec_faWho.f k l0 a1).bind fun t290 => (if t290 = true then ((spec_l1In.f a2 0 (wrap64 ((l0.length : Int) - 1))).bind fun t291 => (some t291)) else (some false))
set_option maxHeartbeats 8000000 in
set_option maxRecDepth 100000 in
theorem spec_faTwo.calls (k : Nat) (A0 : Option Addr) (c0 : Nat) (l0 : List (S41)) (a1 : Int) (a2 : Int) (r : Bool) (w : World) (hr0 : Kd.C k41 w A0 l0.length l0) (hc0 : l0.length ≤ c0) (h : spec_faTwo.f k l0 a1 a2 = some r) :
  Calls Tryz.prog 40 #[.slice A0 l0.length c0, .int .i64 a1, .int .i64 a2] w fun e w' => e = .returned (.bool r) ∧ Below w.heap.size w w' := by
 have HR0 := Aside0.mk hr0
 have HC0 := Aside0.mk hc0
 clear hr0 hc0
 have HB := Aside0.mk (Below.refl w.heap.size w)
 have H : ((spec_faWho.f k l0 a1).bind fun t290 => (if t290 = true then ((spec_l1In.f a2 0 (wrap64 ((l0.length : Int) - 1))).bind fun t291 => (some t291)) else (some false))) = some r := h
 clear h
 replace H := Option.bind_eq_some_iff.mp H
 obtain ⟨t290, A40, H⟩ := H
 have A4 := Aside0.mk A40
 clear A40
 by_cases c5 : t290 = true
 ·subst c5
  rw [if_pos rfl] at H
  replace H := Option.bind_eq_some_iff.mp H
  obtain ⟨t291, A60, H⟩ := H
  have A6 := Aside0.mk A60
  clear A60
  obtain rfl := Option.some.inj H
  go_enter Tryz.func40, Tryz.ntmps40
  go_wp2_with (first | ((with_reducible refine gate_callee (f := 70) rfl ?_); refine kE (some 9) Tryz.func70 #[.slice A0 l0.length c0, .int .i64 a1] rfl ?_; (with_reducible refine (spec_faWho.calls k _ _ l0 a1 true _ ?side1 ?side2 A4.out).mono ?_); (case side1 => exact kD HR0); (case side2 => exact HC0.out); rintro e w7 ⟨rfl, hb⟩; refine ⟨_, rfl, ?_⟩; replace HB := kH HB hb; (try clear hb)) | (go_at_call 71; (with_reducible refine (spec_l1In.calls a2 0 (wrap64 ((l0.length : Int) - 1)) t291 _ A6.out).mono ?_); rintro e w' ⟨rfl, ⟨nd, rfl⟩⟩))
  go_ret
  exact ⟨kZ, kO⟩
 ·replace c5 := Bool.eq_false_iff.mpr c5
  subst c5
  rw [if_neg (show ¬ (false = true) by decide)] at H
  obtain rfl := Option.some.inj H
  go_enter Tryz.func40, Tryz.ntmps40
  go_wp2_with (first | ((with_reducible refine gate_callee (f := 70) rfl ?_); refine kE (some 9) Tryz.func70 #[.slice A0 l0.length c0, .int .i64 a1] rfl ?_; (with_reducible refine (spec_faWho.calls k _ _ l0 a1 false _ ?side1 ?side2 A4.out).mono ?_); (case side1 => exact kD HR0); (case side2 => exact HC0.out); rintro e w8 ⟨rfl, hb⟩; refine ⟨_, rfl, ?_⟩; replace HB := kH HB hb; (try clear hb)))
  go_ret
  exact ⟨kZ, kO⟩

/-! ### spec_l1Has: function 56 -/
def spec_l1Has.l0 : Nat → Int → List Int → Int → Int → Option (Bool)
 | 0, _, _, _, _ => none
 | k + 1, x1, x7, x8, x9 => if x9 < x8 then (if 0 ≤ x9 then (if x9 < (x7.length : Int) then (if (rd x7 x9) = x1 then (some true) else (spec_l1Has.l0 k x1 x7 x8 (wrap64 (x9 + 1)))) else (none)) else (none)) else (some false)
def spec_l1Has.f (k : Nat) (l0 : List Int) (a1 : Int) : Option (Bool) := spec_l1Has.l0 k a1 l0 (l0.length : Int) 0
set_option maxHeartbeats 8000000 in
set_option maxRecDepth 100000 in
theorem spec_l1Has.calls (k : Nat) (A0 : Option Addr) (c0 : Nat) (l0 : List Int) (a1 : Int) (r : Bool) (w : World) (hr0 : Kd.C (Kd.int .i64) w A0 l0.length l0) (hc0 : l0.length ≤ c0) (h : spec_l1Has.f k l0 a1 = some r) :
  Calls Tryz.prog 56 #[.slice A0 l0.length c0, .int .i64 a1] w fun e w' => e = .returned (.bool r) ∧ Drawn0 w w' := by
 have HR0 := Aside0.mk hr0
 have HC0 := Aside0.mk hc0
 clear hr0 hc0
 have H : (spec_l1Has.l0 k a1 l0 (l0.length : Int) 0) = some r := h
 clear h
 have H' := Aside0.mk H
 clear H
 go_enter Tryz.func56, Tryz.ntmps56
 go_wp2
 go_loopg [9] k (fun kq v9 w' => ∃ (x9_1 : Int), v9 = .int .i64 x9_1 ∧ Aside0 (spec_l1Has.l0 kq a1 l0 (l0.length : Int) x9_1 = some r) ∧ Aside0 (kq ≤ k) ∧ Drawn0 w w')
 case atStart => exact ⟨(0), kY, H', ⟨Nat.le_refl _⟩, by repeat (first | exact Drawn0.refl _ | apply Drawn0.step)⟩
 case round =>
  clear H'
  obtain ⟨x9_1, rfl, HA, HK1, ⟨m1, rfl⟩⟩ := hrel
  cases gk with
  | zero => exact absurd HA.out (by simp [spec_l1Has.l0])
  | succ k1 =>
   have H := HA.out
   clear HA
   simp only [spec_l1Has.l0] at H
   by_cases c3 : x9_1 < (l0.length : Int)
   ·rw [if_pos c3] at H
    have c3b0 : decide (x9_1 < (l0.length : Int)) = true := decide_eq_true c3
    clear c3
    by_cases c4 : 0 ≤ x9_1
    ·rw [if_pos c4] at H
     have c4b0 : decide (0 ≤ x9_1) = true := decide_eq_true c4
     clear c4
     by_cases c5 : x9_1 < (l0.length : Int)
     ·rw [if_pos c5] at H
      have c5b0 : decide (x9_1 < (l0.length : Int)) = true := decide_eq_true c5
      clear c5
      by_cases c6 : (rd l0 x9_1) = a1
      ·rw [if_pos c6] at H
       have c6b0 : ((rd l0 x9_1) == a1) = true := beq_iff_eq.mpr c6
       have c6b1 : ((rd l0 x9_1) != a1) = false := bne_eq_false_iff_eq.mpr c6
       clear c6
       obtain rfl := Option.some.inj H
       have p292 : 0 ≤ (x9_1 : Int) := of_decide_eq_true (by first | (with_reducible assumption) | assumption)
       have q292 : x9_1 < (l0.length : Int) := of_decide_eq_true (by first | (with_reducible assumption) | assumption)
       obtain ⟨ad292, e292, hx292_0⟩ := Kd.at_int HR0.out x9_1 p292 q292
       cases e292
       replace p292 := eq_true p292
       replace q292 := eq_true q292
       go_wp2
       go_ret
       exact ⟨by first | rfl | (simp; done) | (simp [*]; done), by repeat (first | exact Drawn0.refl _ | apply Drawn0.step)⟩
      ·rw [if_neg c6] at H
       have c6b0 : ((rd l0 x9_1) == a1) = false := beq_eq_false_iff_ne.mpr c6
       have c6b1 : ((rd l0 x9_1) != a1) = true := bne_iff_ne.mpr c6
       have H' := Aside0.mk H
       clear H
       have p292 : 0 ≤ (x9_1 : Int) := of_decide_eq_true (by first | (with_reducible assumption) | assumption)
       have q292 : x9_1 < (l0.length : Int) := of_decide_eq_true (by first | (with_reducible assumption) | assumption)
       obtain ⟨ad292, e292, hx292_0⟩ := Kd.at_int HR0.out x9_1 p292 q292
       cases e292
       replace p292 := eq_true p292
       replace q292 := eq_true q292
       go_wp2
       go_roundg k1
       case measure => have := HK1.out; omega
       case rel => exact ⟨(wrap64 (x9_1 + 1)), kY, H', ⟨by have := HK1.out; omega⟩, by repeat (first | exact Drawn0.refl _ | apply Drawn0.step)⟩
     ·rw [if_neg c5] at H
      exact absurd H (by simp)
    ·rw [if_neg c4] at H
     exact absurd H (by simp)
   ·rw [if_neg c3] at H
    have c3b0 : decide (x9_1 < (l0.length : Int)) = false := decide_eq_false c3
    clear c3
    obtain rfl := Option.some.inj H
    go_wp2
    go_ret
    exact ⟨by first | rfl | (simp; done) | (simp [*]; done), by repeat (first | exact Drawn0.refl _ | apply Drawn0.step)⟩

/-! ### spec_faParents: function 57 -/
def spec_faParents.l0 : Nat → List Int → List Int → Int → Int → Option (List Int)
 | 0, _, _, _, _ => none
 | k + 1, x5, x18, x19, x20 => if x20 < x19 then (if 0 ≤ x20 then (if x20 < (x18.length : Int) then (if (rd x18 x20) ≥ 0 then (if x5.length < 17592186044416 then (spec_faParents.l0 k (x5 ++ [rd x18 x20]) x18 x19 (wrap64 (x20 + 1))) else (none)) else (spec_faParents.l0 k x5 x18 x19 (wrap64 (x20 + 1)))) else (none)) else (none)) else (some x5)
def spec_faParents.f (k : Nat) (l0 : List (S41)) (a1 : Int) : Option (List Int) := if 0 ≤ a1 then (if a1 < (l0.length : Int) then ((some (([(rd_T41 l0 a1).f1, (rd_T41 l0 a1).f2] : List Int) : List Int)).bind fun y295 => (spec_faParents.l0 k ([] : List Int) y295 (y295.length : Int) 0)) else (none)) else (none)
def spec_faParents.T2 : Bool × List (List Nat × List Nat) := (true, [([], []), ([], []), ([0, 1], [0, 1]), ([2], [2]), ([3], [3]), ([], []), ([], []), ([5, 6], [5, 6]), ([7], [7]), ([8], [8]), ([4, 9], [4, 9]), ([10], [10]), ([], [])])
def spec_faParents.B2 : List Nat := [0, 0, 3, 7, 15, 0, 0, 96, 224, 480, 1023, 2047, 0]
theorem spec_faParents.tab2 : rtab .any (opsOf Tryz.f57 2) = spec_faParents.T2 := by kernel_rfl
theorem spec_faParents.bits2 : waitsOk spec_faParents.T2.2 spec_faParents.B2 = true := by kernel_rfl
set_option maxHeartbeats 8000000 in
set_option maxRecDepth 100000 in
theorem spec_faParents.calls (k : Nat) (A0 : Option Addr) (c0 : Nat) (l0 : List (S41)) (a1 : Int) (r : List Int) (w : World) (hr0 : Kd.C k41 w A0 l0.length l0) (hc0 : l0.length ≤ c0) (h : spec_faParents.f k l0 a1 = some r) :
  Calls Tryz.prog 57 #[.slice A0 l0.length c0, .int .i64 a1] w fun e w' => ∃ v0_ : Value, e = .returned (v0_) ∧ Kd.R (Kd.int .i64) 3 w' w.heap.size (fun _ => True) v0_ r ∧ Below w.heap.size w w' := by
 have HR0 := Aside0.mk hr0
 have HC0 := Aside0.mk hc0
 clear hr0 hc0
 have HB := Aside0.mk (Below.refl w.heap.size w)
 have H : (if 0 ≤ a1 then (if a1 < (l0.length : Int) then ((some (([(rd_T41 l0 a1).f1, (rd_T41 l0 a1).f2] : List Int) : List Int)).bind fun y295 => (spec_faParents.l0 k ([] : List Int) y295 (y295.length : Int) 0)) else (none)) else (none)) = some r := h
 clear h
 by_cases c3 : 0 ≤ a1
 ·rw [if_pos c3] at H
  have c3b0 : decide (0 ≤ a1) = true := decide_eq_true c3
  clear c3
  by_cases c4 : a1 < (l0.length : Int)
  ·rw [if_pos c4] at H
   have c4b0 : decide (a1 < (l0.length : Int)) = true := decide_eq_true c4
   clear c4
   obtain ⟨y295, hy295⟩ : ∃ y_ : List Int, y_ = (([(rd_T41 l0 a1).f1, (rd_T41 l0 a1).f2] : List Int)) := ⟨_, rfl⟩
   replace H : (spec_faParents.l0 k ([] : List Int) y295 (y295.length : Int) 0) = some r := by first | (rw [hy295]; with_reducible exact H) | (have H2_ := (Option.bind_some _ _).symm.trans H; rw [hy295]; with_reducible exact H2_) | (have H2_ := (Option.bind_some _ _).symm.trans H; with_reducible exact H2_) | with_reducible exact H | (rw [hy295]; exact H) | exact H
   have Ny295 := Aside0.mk hy295
   clear hy295
   have H' := Aside0.mk H
   clear H
   go_enter Tryz.func57, Tryz.ntmps57
   try go_wp2
   have n0_ := Aside0.mk (below_drew1 HB.out)
   clear HB
   have HB := n0_
   clear n0_
   have p293 : 0 ≤ (a1 : Int) := of_decide_eq_true (by first | (with_reducible assumption) | assumption)
   have q293 : a1 < (l0.length : Int) := of_decide_eq_true (by first | (with_reducible assumption) | assumption)
   obtain ⟨ad293, e293, hx293_0, hx293_1, hx293_2⟩ := at_T41 HR0.out a1 p293 q293
   have hw293_2 := hx293_2
   have hw293_1 := hx293_1
   have hw293_0 := hx293_0
   cases e293
   replace hx293_0 := (HB.out.cell (World.block_lt_of_cell? w _ hx293_0)).trans hx293_0
   replace hx293_1 := (HB.out.cell (World.block_lt_of_cell? w _ hx293_1)).trans hx293_1
   replace hx293_2 := (HB.out.cell (World.block_lt_of_cell? w _ hx293_2)).trans hx293_2
   replace p293 := eq_true p293
   replace q293 := eq_true q293
   have p294 : 0 ≤ (a1 : Int) := of_decide_eq_true (by first | (with_reducible assumption) | assumption)
   have q294 : a1 < (l0.length : Int) := of_decide_eq_true (by first | (with_reducible assumption) | assumption)
   obtain ⟨ad294, e294, hx294_0, hx294_1, hx294_2⟩ := at_T41 HR0.out a1 p294 q294
   have hw294_2 := hx294_2
   have hw294_1 := hx294_1
   have hw294_0 := hx294_0
   obtain rfl : ad293 = ad294 := (by injection e294)
   replace hx294_0 := (HB.out.cell (World.block_lt_of_cell? w _ hx294_0)).trans hx294_0
   replace hx294_1 := (HB.out.cell (World.block_lt_of_cell? w _ hx294_1)).trans hx294_1
   replace hx294_2 := (HB.out.cell (World.block_lt_of_cell? w _ hx294_2)).trans hx294_2
   replace p294 := eq_true p294
   replace q294 := eq_true q294
   refine start_ (n := 13) (S := fun w' => w'.cell? (ad293.add ((a1).toNat * 3)) = some (.int .i64 ((rd_T41 l0 a1).f0)) ∧ w'.cell? ⟨(ad293.add ((a1).toNat * 3)).block, (ad293.add ((a1).toNat * 3)).off + 1, none⟩ = some (.int .i64 ((rd_T41 l0 a1).f1)) ∧ w'.cell? ⟨(ad293.add ((a1).toNat * 3)).block, (ad293.add ((a1).toNat * 3)).off + 2, none⟩ = some (.int .i64 ((rd_T41 l0 a1).f2)) ∧ w'.cell? (ad293.add ((a1).toNat * 3)) = some (.int .i64 ((rd_T41 l0 a1).f0)) ∧ w'.cell? ⟨(ad293.add ((a1).toNat * 3)).block, (ad293.add ((a1).toNat * 3)).off + 1, none⟩ = some (.int .i64 ((rd_T41 l0 a1).f1)) ∧ w'.cell? ⟨(ad293.add ((a1).toNat * 3)).block, (ad293.add ((a1).toNat * 3)).off + 2, none⟩ = some (.int .i64 ((rd_T41 l0 a1).f2))) (ds := []) #[false, false, false, false, false, false, false, false, false, false, false, false, false] (by kernel_rfl) rfl rfl ⟨((HB.out.cell (World.block_lt_of_cell? w _ hw293_0)).trans hw293_0), ((HB.out.cell (World.block_lt_of_cell? w _ hw293_1)).trans hw293_1), ((HB.out.cell (World.block_lt_of_cell? w _ hw293_2)).trans hw293_2), ((HB.out.cell (World.block_lt_of_cell? w _ hw294_0)).trans hw294_0), ((HB.out.cell (World.block_lt_of_cell? w _ hw294_1)).trans hw294_1), ((HB.out.cell (World.block_lt_of_cell? w _ hw294_2)).trans hw294_2)⟩ (fun hHeld => ?_); refine with_tabW spec_faParents.tab2 spec_faParents.bits2 (fun HT_ HW_ => ?_)
   generalize w.drew = w5 at HB hx293_0 hx293_1 hx293_2 hx294_0 hx294_1 hx294_2 hHeld ⊢
   refine pure_ (i := 0) (N := some 8) (v := ?_) (a' := ?_) #[true, false, false, false, false, false, false, false, false, false, false, false, false] rfl rfl (any_of HT_.out (by kernel_rfl)) (fun _ _ _ h => h) (Or.inl ⟨by rfl, ?_⟩) ?_ ?_
   rotate_left
   ·intro w'
    go_simp
    with_reducible rfl
   rotate_left
   ·simp only [Act.put, List.setIfInBounds_toArray, List.set_cons_zero, List.set_cons_succ, i64_w, i32_w]
    rfl
   refine pure_ (i := 1) (N := some 9) (v := ?_) (a' := ?_) #[true, true, false, false, false, false, false, false, false, false, false, false, false] rfl rfl (any_of HT_.out (by kernel_rfl)) (fun _ _ _ h => h) (Or.inl ⟨by rfl, ?_⟩) ?_ ?_
   rotate_left
   ·intro w'
    go_simp
    with_reducible rfl
   rotate_left
   ·simp only [Act.put, List.setIfInBounds_toArray, List.set_cons_zero, List.set_cons_succ, i64_w, i32_w]
    rfl
   refine pure_ (i := 2) (N := some 10) (v := ?_) (a' := ?_) #[true, true, true, false, false, false, false, false, false, false, false, false, false] rfl rfl (any_of HT_.out (by kernel_rfl)) (fun _ _ _ h => h) (Or.inl ⟨by rfl, ?_⟩) ?_ ?_
   rotate_left
   ·intro w'
    go_simp
    with_reducible rfl
   rotate_left
   ·simp only [Act.put, List.setIfInBounds_toArray, List.set_cons_zero, List.set_cons_succ, i64_w, i32_w]
    rfl
   refine pure_ (i := 3) (N := some 11) (v := ?_) (a' := ?_) #[true, true, true, true, false, false, false, false, false, false, false, false, false] rfl rfl (any_of HT_.out (by kernel_rfl)) (fun _ _ _ h => h) (Or.inl ⟨by rfl, ?_⟩) ?_ ?_
   rotate_left
   ·intro w'
    go_simp
    with_reducible rfl
   rotate_left
   ·simp only [Act.put, List.setIfInBounds_toArray, List.set_cons_zero, List.set_cons_succ, i64_w, i32_w]
    rfl
   refine pure_ (i := 5) (N := some 13) (v := ?_) (a' := ?_) #[true, true, true, true, false, true, false, false, false, false, false, false, false] rfl rfl (any_of HT_.out (by kernel_rfl)) (fun _ _ _ h => h) (Or.inl ⟨by rfl, ?_⟩) ?_ ?_
   rotate_left
   ·intro w'
    go_simp
    with_reducible rfl
   rotate_left
   ·simp only [Act.put, List.setIfInBounds_toArray, List.set_cons_zero, List.set_cons_succ, i64_w, i32_w]
    rfl
   refine pure_ (i := 6) (N := some 14) (v := ?_) (a' := ?_) #[true, true, true, true, false, true, true, false, false, false, false, false, false] rfl rfl (any_of HT_.out (by kernel_rfl)) (fun _ _ _ h => h) (Or.inl ⟨by rfl, ?_⟩) ?_ ?_
   rotate_left
   ·intro w'
    go_simp
    with_reducible rfl
   rotate_left
   ·simp only [Act.put, List.setIfInBounds_toArray, List.set_cons_zero, List.set_cons_succ, i64_w, i32_w]
    rfl
   refine pure_ (i := 7) (N := some 15) (v := ?_) (a' := ?_) #[true, true, true, true, false, true, true, true, false, false, false, false, false] rfl rfl (any_of HT_.out (by kernel_rfl)) (fun _ _ _ h => h) (Or.inl ⟨by rfl, ?_⟩) ?_ ?_
   rotate_left
   ·intro w'
    go_simp
    with_reducible rfl
   rotate_left
   ·simp only [Act.put, List.setIfInBounds_toArray, List.set_cons_zero, List.set_cons_succ, i64_w, i32_w]
    rfl
   refine pure_ (i := 8) (N := some 16) (v := ?_) (a' := ?_) #[true, true, true, true, false, true, true, true, true, false, false, false, false] rfl rfl (any_of HT_.out (by kernel_rfl)) (fun _ _ _ h => h) (Or.inl ⟨by rfl, ?_⟩) ?_ ?_
   rotate_left
   ·intro w'
    go_simp
    with_reducible rfl
   rotate_left
   ·simp only [Act.put, List.setIfInBounds_toArray, List.set_cons_zero, List.set_cons_succ, i64_w, i32_w]
    rfl
   refine pure_ (i := 12) (N := some 20) (v := ?_) (a' := ?_) #[true, true, true, true, false, true, true, true, true, false, false, false, true] rfl rfl (any_of HT_.out (by kernel_rfl)) (fun _ _ _ h => h) (Or.inl ⟨by rfl, ?_⟩) ?_ ?_
   rotate_left
   ·intro w'
    go_simp
    with_reducible rfl
   rotate_left
   ·simp only [Act.put, List.setIfInBounds_toArray, List.set_cons_zero, List.set_cons_succ, i64_w, i32_w]
    rfl
   refine take_ (i := 4) (N := some 12) (v := ?_) (a' := ?_) #[true, true, true, true, true, true, true, true, true, false, false, false, true] rfl rfl (take_ofW HT_.out HW_.out (by kernel_rfl)) (fun _ _ _ h => h) (Or.inl ⟨by rfl, ?_⟩) hHeld ?_ ?_
   rotate_left
   ·rintro w' ⟨s0, s1, s2, s3, s4, s5⟩
    go_simp
    with_reducible rfl
   rotate_left
   ·simp only [Act.put, List.setIfInBounds_toArray, List.set_cons_zero, List.set_cons_succ, i64_w, i32_w]
    rfl
   refine take_ (i := 9) (N := some 17) (v := ?_) (a' := ?_) #[true, true, true, true, true, true, true, true, true, true, false, false, true] rfl rfl (take_ofW HT_.out HW_.out (by kernel_rfl)) (fun _ _ _ h => h) (Or.inl ⟨by rfl, ?_⟩) hHeld ?_ ?_
   rotate_left
   ·rintro w' ⟨s0, s1, s2, s3, s4, s5⟩
    go_simp
    with_reducible rfl
   rotate_left
   ·simp only [Act.put, List.setIfInBounds_toArray, List.set_cons_zero, List.set_cons_succ, i64_w, i32_w]
    rfl
   refine one_ (i := 10) (N := some 18) #[true, true, true, true, true, true, true, true, true, true, true, false, true] rfl rfl (one_of HT_.out (by kernel_rfl)) (by decide) (fun K hK => ?_)
   refine Kd.R_lit_step (Kd.int .i64) _ 3 ?hg (N := 18) ?hd (xs := ([(rd_T41 l0 a1).f1, (rd_T41 l0 a1).f2] : List Int)) (inner := [.int .i64 ((rd_T41 l0 a1).f1), .int .i64 ((rd_T41 l0 a1).f2)]) (ok := fun _ => True) (okp := fun _ => True) ?hr ?hp (fun _ hk => hk) trivial (Below.refl _ _) (Nat.le_refl _) (by simp) ?_; (case hd => rfl); (case hg => rfl); (case hr => first | (go_simp; done) | (go_simp; rfl)); (case hp => exact (Reps.one (show Kd.M (Kd.int .i64) _ _ _ ((rd_T41 l0 a1).f1) [.int .i64 ((rd_T41 l0 a1).f1)] from rfl) (Reps.one (show Kd.M (Kd.int .i64) _ _ _ ((rd_T41 l0 a1).f2) [.int .i64 ((rd_T41 l0 a1).f2)] from rfl) (Reps.none _ _))))
   intro v296 w6 ho7 hb hg_ hnew_
   clear hg_ hnew_
   (first | rw [← Ny295.out] at ho7 | (simp only [Int.reduceToNat] at ho7; rw [← Ny295.out] at ho7))
   have n0_ := Aside0.mk (Kd.R_lower ho7 (below_size kO))
   have n1_ := kH HB hb
   clear HB
   have HO297 := n0_
   have HB := n1_
   clear n0_ n1_
   clear hb ho7
   obtain ⟨Ao8, co8, eo8⟩ := Kd.R_slice HO297.out
   (first | subst eo8 | (injection eo8 with f1_ f2_ f3_; have f4_ := f1_.symm; have f5_ := f3_.symm; clear f1_ f2_ f3_; subst f4_; subst f5_))
   refine hK.out _ _ ⟨((HB.out.cell (World.block_lt_of_cell? w _ hw293_0)).trans hw293_0), ((HB.out.cell (World.block_lt_of_cell? w _ hw293_1)).trans hw293_1), ((HB.out.cell (World.block_lt_of_cell? w _ hw293_2)).trans hw293_2), ((HB.out.cell (World.block_lt_of_cell? w _ hw294_0)).trans hw294_0), ((HB.out.cell (World.block_lt_of_cell? w _ hw294_1)).trans hw294_1), ((HB.out.cell (World.block_lt_of_cell? w _ hw294_2)).trans hw294_2)⟩ (fun hHeld => ?_)
   clear hK K
   refine norm_ (a' := ?_) ?_ ?_
   rotate_left
   ·show Act.put _ (some 18) _ = _
    simp only [Act.put, List.setIfInBounds_toArray, List.set_cons_zero, List.set_cons_succ, i64_w, i32_w]
    rfl
   refine pure_ (i := 11) (N := some 19) (v := ?_) (a' := ?_) #[true, true, true, true, true, true, true, true, true, true, true, true, true] rfl rfl (any_of HT_.out (by kernel_rfl)) (fun _ _ _ h => h) (Or.inl ⟨by rfl, ?_⟩) ?_ ?_
   rotate_left
   ·intro w'
    go_simp
    with_reducible rfl
   rotate_left
   ·simp only [Act.put, List.setIfInBounds_toArray, List.set_cons_zero, List.set_cons_succ, i64_w, i32_w]
    rfl
   refine done_ (done_of HT_.out (by kernel_rfl)) ?_
   try go_wp2
   go_loopg [5, 20] k (fun kq v5 v20 w' => ∃ (x5_1 : List Int) (x20_1 : Int), v20 = .int .i64 x20_1 ∧ Aside0 (spec_faParents.l0 kq x5_1 y295 (y295.length : Int) x20_1 = some r) ∧ Aside0 (kq ≤ k) ∧ Aside0 (Kd.R (Kd.int .i64) 3 w' w.heap.size (fun k_ => some k_ ≠ ((.slice Ao8 y295.length co8) : Value).ownBlock) v5 x5_1) ∧ Aside0 (Kd.R (Kd.int .i64) 3 w' w.heap.size (fun k_ => some k_ ≠ (v5 : Value).ownBlock) (.slice Ao8 y295.length co8) y295) ∧ Aside0 (Below w.heap.size w w'))
   case atStart => exact ⟨(([] : List Int)), (0), kY, H', ⟨Nat.le_refl _⟩, ⟨by first | exact Kd.R_nil _ _ _ _ _ | exact Kd.N_nil _ _ _ _ _ | exact Kd.V_nil _ _ _ _ _ | exact Kd.Q_nil _ _ _ _ _ | exact Kd.S_nil _ _ _ _ _⟩, ⟨by (with_reducible repeat (first | apply Kd.R_alloc | apply Kd.R_drewN | apply Kd.R_drew)); exact Kd.R_mono HO297.out (fun _ hk => (by simp [Value.ownBlock]))⟩, kI⟩
   case round =>
    clear H'
    try clear c3
    try clear c3b0
    try clear c4
    try clear c4b0
    try clear p293
    try clear p294
    obtain ⟨x5_1, x20_1, rfl, HA, HK1, HO_5, HO_18, HB⟩ := hrel
    cases gk with
    | zero => exact absurd HA.out (by simp [spec_faParents.l0])
    | succ k1 =>
     have H := HA.out
     clear HA
     simp only [spec_faParents.l0] at H
     by_cases c9 : x20_1 < (y295.length : Int)
     ·rw [if_pos c9] at H
      have c9b0 : decide (x20_1 < (y295.length : Int)) = true := decide_eq_true c9
      clear c9
      by_cases c10 : 0 ≤ x20_1
      ·rw [if_pos c10] at H
       have c10b0 : decide (0 ≤ x20_1) = true := decide_eq_true c10
       clear c10
       by_cases c11 : x20_1 < (y295.length : Int)
       ·rw [if_pos c11] at H
        have c11b0 : decide (x20_1 < (y295.length : Int)) = true := decide_eq_true c11
        clear c11
        by_cases c12 : (rd y295 x20_1) ≥ 0
        ·rw [if_pos c12] at H
         have c12b0 : decide (0 ≤ (rd y295 x20_1)) = true := decide_eq_true c12
         clear c12
         by_cases c13 : x5_1.length < 17592186044416
         ·rw [if_pos c13] at H
          have LMc13 := Aside0.mk c13
          clear c13
          obtain ⟨y299, hy299⟩ : ∃ y_ : List Int, y_ = (x5_1 ++ [rd y295 x20_1]) := ⟨_, rfl⟩
          replace H : (spec_faParents.l0 k1 y299 y295 (y295.length : Int) (wrap64 (x20_1 + 1))) = some r := by first | (rw [hy299]; with_reducible exact H) | (have H2_ := (Option.bind_some _ _).symm.trans H; rw [hy299]; with_reducible exact H2_) | (have H2_ := (Option.bind_some _ _).symm.trans H; with_reducible exact H2_) | with_reducible exact H | (rw [hy299]; exact H) | exact H
          have Ny299 := Aside0.mk hy299
          clear hy299
          have H' := Aside0.mk H
          clear H
          have p298 : 0 ≤ (x20_1 : Int) := of_decide_eq_true (by first | (with_reducible assumption) | assumption)
          have q298 : x20_1 < (y295.length : Int) := of_decide_eq_true (by first | (with_reducible assumption) | assumption)
          obtain ⟨ad298, e298, hx298_0⟩ := Kd.at_int (Kd.R_reads' HO_18.out).2.2 x20_1 p298 q298
          cases e298
          replace p298 := eq_true p298
          replace q298 := eq_true q298
          go_wp2_with (first | ((with_reducible refine gate_builtin (b := .append) (xs := #[.tmp 26, .tmp 28]) rfl ?_); at_builtin; refine Kd.R_append (Kd.int .i64) (w0 := w) w.heap.size rfl (.tmp 26) (.tmp 28) 31 3 (.int .i64 0) 8 rfl Tryz.underlying31 info3 rfl (by decide) (by omega) u5 x5_1 (rd y295 x20_1) [.int .i64 (rd y295 x20_1)] (fun k_ => some k_ ≠ (.slice (some ad298) y295.length co8 : Value).ownBlock) (fun _ => False) rfl rfl ?aP (fun _ hk => hk.elim) ?aF ?aO ?aB ?aS ?aL ?_; (case aP => exact rfl); (case aB => exact kO); (case aF => exact (fun k_ hk => Kd.fresh' (Kd.R_lt (kW HO_18)) k_ hk)); (case aO => exact (kW HO_5)); (case aS => exact (below_size kO)); (case aL => have := LMc13.out; omega); intro v300 w14 ho hb hg hat; rw [← Ny299.out] at ho; have n0_ := Aside0.mk (Kd.R_after (ok := (fun _ => True)) (by (with_reducible repeat (first | apply Kd.R_alloc | apply Kd.R_drewN | apply Kd.R_drew)); exact Kd.R_mono HO_18.out (fun _ hk => ⟨trivial, hk⟩)) hg hat); have n1_ := Aside0.mk (hb); have n2_ := Aside0.mk (ho); clear HO_18; clear HB; clear HO_5; have HO_18 := n0_; have HB := n1_; have HO301 := n2_; clear n0_ n1_ n2_; clear ho hb hg hat))
          go_roundg k1
          case measure => have := HK1.out; omega
          case rel => exact ⟨(y299), (wrap64 (x20_1 + 1)), kY, H', ⟨by have := HK1.out; omega⟩, ⟨kW HO301⟩, ⟨by (with_reducible repeat (first | apply Kd.R_alloc | apply Kd.R_drewN | apply Kd.R_drew)); exact Kd.R_mono HO_18.out (fun _ hk => hk.2)⟩, kI⟩
         ·rw [if_neg c13] at H
          exact absurd H (by simp)
        ·rw [if_neg c12] at H
         have c12b0 : decide (0 ≤ (rd y295 x20_1)) = false := decide_eq_false c12
         clear c12
         have H' := Aside0.mk H
         clear H
         have p298 : 0 ≤ (x20_1 : Int) := of_decide_eq_true (by first | (with_reducible assumption) | assumption)
         have q298 : x20_1 < (y295.length : Int) := of_decide_eq_true (by first | (with_reducible assumption) | assumption)
         obtain ⟨ad298, e298, hx298_0⟩ := Kd.at_int (Kd.R_reads' HO_18.out).2.2 x20_1 p298 q298
         cases e298
         replace p298 := eq_true p298
         replace q298 := eq_true q298
         go_wp2
         go_roundg k1
         case measure => have := HK1.out; omega
         case rel => exact ⟨(x5_1), (wrap64 (x20_1 + 1)), kY, H', ⟨by have := HK1.out; omega⟩, ⟨kW HO_5⟩, ⟨kW HO_18⟩, kI⟩
       ·rw [if_neg c11] at H
        exact absurd H (by simp)
      ·rw [if_neg c10] at H
       exact absurd H (by simp)
     ·rw [if_neg c9] at H
      have c9b0 : decide (x20_1 < (y295.length : Int)) = false := decide_eq_false c9
      clear c9
      obtain rfl := Option.some.inj H
      go_wp2
      go_ret
      exact ⟨_, kZ, by (with_reducible repeat (first | apply Kd.R_alloc | apply Kd.R_drewN | apply Kd.R_drew)); exact Kd.R_mono HO_5.out (fun _ hk => trivial), kO⟩
  ·rw [if_neg c4] at H
   exact absurd H (by simp)
 ·rw [if_neg c3] at H
  exact absurd H (by simp)

/-! ### spec_faShared: function 44 -/
def spec_faShared.l0 : Nat → List (S41) → Int → Int → List Int → Int → Int → Option (Int)
 | 0, _, _, _, _, _, _ => none
 | k + 1, x0, x2, x7, x12, x13, x14 => if x14 < x13 then (if 0 ≤ x14 then (if x14 < (x12.length : Int) then ((spec_faParents.f k x0 x2).bind fun t306 => ((spec_l1Has.f k t306 (rd x12 x14)).bind fun t309 => (if t309 = true then (spec_faShared.l0 k x0 x2 (wrap64 (x7 + 1)) x12 x13 (wrap64 (x14 + 1))) else (spec_faShared.l0 k x0 x2 x7 x12 x13 (wrap64 (x14 + 1)))))) else (none)) else (none)) else (some x7)
def spec_faShared.f (k : Nat) (l0 : List (S41)) (a1 : Int) (a2 : Int) : Option (Int) := (spec_faParents.f k l0 a1).bind fun t302 => (spec_faShared.l0 k l0 a2 0 t302 (t302.length : Int) 0)
set_option maxHeartbeats 8000000 in
set_option maxRecDepth 100000 in
theorem spec_faShared.calls (k : Nat) (A0 : Option Addr) (c0 : Nat) (l0 : List (S41)) (a1 : Int) (a2 : Int) (r : Int) (w : World) (hr0 : Kd.C k41 w A0 l0.length l0) (hc0 : l0.length ≤ c0) (h : spec_faShared.f k l0 a1 a2 = some r) :
  Calls Tryz.prog 44 #[.slice A0 l0.length c0, .int .i64 a1, .int .i64 a2] w fun e w' => e = .returned (.int .i64 r) ∧ Below w.heap.size w w' := by
 have HR0 := Aside0.mk hr0
 have HC0 := Aside0.mk hc0
 clear hr0 hc0
 have HB := Aside0.mk (Below.refl w.heap.size w)
 have H : ((spec_faParents.f k l0 a1).bind fun t302 => (spec_faShared.l0 k l0 a2 0 t302 (t302.length : Int) 0)) = some r := h
 clear h
 replace H := Option.bind_eq_some_iff.mp H
 obtain ⟨t302, A40, H⟩ := H
 have A4 := Aside0.mk A40
 clear A40
 have H' := Aside0.mk H
 clear H
 go_enter Tryz.func44, Tryz.ntmps44
 go_wp2_with (first | ((with_reducible refine gate_callee (f := 57) rfl ?_); refine kE (some 12) Tryz.func57 #[.slice A0 l0.length c0, .int .i64 a1] rfl ?_; (with_reducible refine (spec_faParents.calls k _ _ l0 a1 t302 _ ?side1 ?side2 A4.out).mono ?_); (case side1 => exact kD HR0); (case side2 => exact HC0.out); rintro e w5 ⟨v303, rfl, ho0, hb⟩; refine ⟨_, rfl, ?_⟩; have n0_ := Aside0.mk (Kd.R_lower ho0 (below_size kO)); have n1_ := kH HB hb; clear HB; have HO304 := n0_; have HB := n1_; clear n0_ n1_; (try clear hb); (try clear ho0); obtain ⟨Ao6, co6, eo6⟩ := Kd.R_slice HO304.out; subst eo6))
 go_loopg [7, 14] k (fun kq v7 v14 w' => ∃ (x7_1 : Int) (x14_1 : Int), v7 = .int .i64 x7_1 ∧ v14 = .int .i64 x14_1 ∧ Aside0 (spec_faShared.l0 kq l0 a2 x7_1 t302 (t302.length : Int) x14_1 = some r) ∧ Aside0 (kq ≤ k) ∧ Aside0 (Kd.R (Kd.int .i64) 3 w' w.heap.size (fun _ => True) (.slice Ao6 t302.length co6) t302) ∧ Aside0 (Below w.heap.size w w'))
 case atStart => exact ⟨(0), (0), kY, kY, H', ⟨Nat.le_refl _⟩, ⟨kW HO304⟩, kI⟩
 case round =>
  clear H'
  obtain ⟨x7_1, x14_1, rfl, rfl, HA, HK1, HO_12, HB⟩ := hrel
  cases gk with
  | zero => exact absurd HA.out (by simp [spec_faShared.l0])
  | succ k1 =>
   have H := HA.out
   clear HA
   simp only [spec_faShared.l0] at H
   by_cases c7 : x14_1 < (t302.length : Int)
   ·rw [if_pos c7] at H
    have c7b0 : decide (x14_1 < (t302.length : Int)) = true := decide_eq_true c7
    clear c7
    by_cases c8 : 0 ≤ x14_1
    ·rw [if_pos c8] at H
     have c8b0 : decide (0 ≤ x14_1) = true := decide_eq_true c8
     clear c8
     by_cases c9 : x14_1 < (t302.length : Int)
     ·rw [if_pos c9] at H
      have c9b0 : decide (x14_1 < (t302.length : Int)) = true := decide_eq_true c9
      clear c9
      replace H := Option.bind_eq_some_iff.mp H
      obtain ⟨t306, A100, H⟩ := H
      have A10 := Aside0.mk A100
      clear A100
      replace H := Option.bind_eq_some_iff.mp H
      obtain ⟨t309, A110, H⟩ := H
      have A11 := Aside0.mk A110
      clear A110
      by_cases c12 : t309 = true
      ·subst c12
       rw [if_pos rfl] at H
       have H' := Aside0.mk H
       clear H
       have p305 : 0 ≤ (x14_1 : Int) := of_decide_eq_true (by first | (with_reducible assumption) | assumption)
       have q305 : x14_1 < (t302.length : Int) := of_decide_eq_true (by first | (with_reducible assumption) | assumption)
       obtain ⟨ad305, e305, hx305_0⟩ := Kd.at_int (Kd.R_reads' HO_12.out).2.2 x14_1 p305 q305
       cases e305
       replace p305 := eq_true p305
       replace q305 := eq_true q305
       go_wp2_with (first | ((with_reducible refine gate_callee (f := 57) rfl ?_); refine kE (some 20) Tryz.func57 #[.slice A0 l0.length c0, .int .i64 a2] rfl ?_; (with_reducible refine (spec_faParents.calls k1 _ _ l0 a2 t306 _ ?side1 ?side2 A10.out).mono ?_); (case side1 => exact kDb HR0); (case side2 => exact HC0.out); rintro e w13 ⟨v307, rfl, ho0, hb⟩; refine ⟨_, rfl, ?_⟩; have n0_ := Aside0.mk (Kd.R_elder' (kW HO_12) (Kd.R_base ho0) hb); have n1_ := Aside0.mk (Kd.R_lower (Kd.R_new' ho0 (Kd.R_lt (kW HO_12))) (below_size kO)); have n2_ := kH HB hb; clear HO_12; clear HB; have HO_12 := n0_; have HO308 := n1_; have HB := n2_; clear n0_ n1_ n2_; (try clear hb); (try clear ho0); obtain ⟨Ao14, co14, eo14⟩ := Kd.R_slice HO308.out; subst eo14) | ((with_reducible refine gate_callee (f := 56) rfl ?_); refine kE (some 22) Tryz.func56 #[.slice Ao14 t306.length co14, .int .i64 (rd t302 x14_1)] rfl ?_; (with_reducible refine (spec_l1Has.calls k1 _ _ t306 (rd t302 x14_1) true _ ?side1 ?side2 A11.out).mono ?_); (case side1 => exact kDo HO308); (case side2 => exact (Kd.R_reads' HO308.out).2.1); rintro e w' ⟨rfl, ⟨nd, rfl⟩⟩; refine ⟨_, rfl, ?_⟩))
       go_roundg k1
       case measure => have := HK1.out; omega
       case rel => exact ⟨(wrap64 (x7_1 + 1)), (wrap64 (x14_1 + 1)), kY, kY, H', ⟨by have := HK1.out; omega⟩, ⟨by (with_reducible repeat (first | apply Kd.R_alloc | apply Kd.R_drewN | apply Kd.R_drew)); exact Kd.R_mono HO_12.out (fun _ hk => trivial)⟩, kI⟩
      ·replace c12 := Bool.eq_false_iff.mpr c12
       subst c12
       rw [if_neg (show ¬ (false = true) by decide)] at H
       have H' := Aside0.mk H
       clear H
       have p305 : 0 ≤ (x14_1 : Int) := of_decide_eq_true (by first | (with_reducible assumption) | assumption)
       have q305 : x14_1 < (t302.length : Int) := of_decide_eq_true (by first | (with_reducible assumption) | assumption)
       obtain ⟨ad305, e305, hx305_0⟩ := Kd.at_int (Kd.R_reads' HO_12.out).2.2 x14_1 p305 q305
       cases e305
       replace p305 := eq_true p305
       replace q305 := eq_true q305
       go_wp2_with (first | ((with_reducible refine gate_callee (f := 57) rfl ?_); refine kE (some 20) Tryz.func57 #[.slice A0 l0.length c0, .int .i64 a2] rfl ?_; (with_reducible refine (spec_faParents.calls k1 _ _ l0 a2 t306 _ ?side1 ?side2 A10.out).mono ?_); (case side1 => exact kDb HR0); (case side2 => exact HC0.out); rintro e w15 ⟨v307, rfl, ho0, hb⟩; refine ⟨_, rfl, ?_⟩; have n0_ := Aside0.mk (Kd.R_elder' (kW HO_12) (Kd.R_base ho0) hb); have n1_ := Aside0.mk (Kd.R_lower (Kd.R_new' ho0 (Kd.R_lt (kW HO_12))) (below_size kO)); have n2_ := kH HB hb; clear HO_12; clear HB; have HO_12 := n0_; have HO308 := n1_; have HB := n2_; clear n0_ n1_ n2_; (try clear hb); (try clear ho0); obtain ⟨Ao16, co16, eo16⟩ := Kd.R_slice HO308.out; subst eo16) | ((with_reducible refine gate_callee (f := 56) rfl ?_); refine kE (some 22) Tryz.func56 #[.slice Ao16 t306.length co16, .int .i64 (rd t302 x14_1)] rfl ?_; (with_reducible refine (spec_l1Has.calls k1 _ _ t306 (rd t302 x14_1) false _ ?side1 ?side2 A11.out).mono ?_); (case side1 => exact kDo HO308); (case side2 => exact (Kd.R_reads' HO308.out).2.1); rintro e w' ⟨rfl, ⟨nd, rfl⟩⟩; refine ⟨_, rfl, ?_⟩))
       go_roundg k1
       case measure => have := HK1.out; omega
       case rel => exact ⟨(x7_1), (wrap64 (x14_1 + 1)), kY, kY, H', ⟨by have := HK1.out; omega⟩, ⟨by (with_reducible repeat (first | apply Kd.R_alloc | apply Kd.R_drewN | apply Kd.R_drew)); exact Kd.R_mono HO_12.out (fun _ hk => trivial)⟩, kI⟩
     ·rw [if_neg c9] at H
      exact absurd H (by simp)
    ·rw [if_neg c8] at H
     exact absurd H (by simp)
   ·rw [if_neg c7] at H
    have c7b0 : decide (x14_1 < (t302.length : Int)) = false := decide_eq_false c7
    clear c7
    obtain rfl := Option.some.inj H
    go_wp2
    go_ret
    exact ⟨kZ, kO⟩

/-! ### spec_faSiblings: function 42 -/
def spec_faSiblings.f (k : Nat) (l0 : List (S41)) (a1 : Int) (a2 : Int) : Option (Bool) := if a1 = a2 then (some false) else ((spec_faShared.f k l0 a1 a2).bind fun t310 => (some (decide (t310 > 0))))
set_option maxHeartbeats 8000000 in
set_option maxRecDepth 100000 in
theorem spec_faSiblings.calls (k : Nat) (A0 : Option Addr) (c0 : Nat) (l0 : List (S41)) (a1 : Int) (a2 : Int) (r : Bool) (w : World) (hr0 : Kd.C k41 w A0 l0.length l0) (hc0 : l0.length ≤ c0) (h : spec_faSiblings.f k l0 a1 a2 = some r) :
  Calls Tryz.prog 42 #[.slice A0 l0.length c0, .int .i64 a1, .int .i64 a2] w fun e w' => e = .returned (.bool r) ∧ Below w.heap.size w w' := by
 have HR0 := Aside0.mk hr0
 have HC0 := Aside0.mk hc0
 clear hr0 hc0
 have HB := Aside0.mk (Below.refl w.heap.size w)
 have H : (if a1 = a2 then (some false) else ((spec_faShared.f k l0 a1 a2).bind fun t310 => (some (decide (t310 > 0))))) = some r := h
 clear h
 by_cases c4 : a1 = a2
 ·rw [if_pos c4] at H
  have c4b0 : (a1 == a2) = true := beq_iff_eq.mpr c4
  have c4b1 : (a1 != a2) = false := bne_eq_false_iff_eq.mpr c4
  clear c4
  obtain rfl := Option.some.inj H
  go_enter Tryz.func42, Tryz.ntmps42
  go_wp2
  go_ret
  exact ⟨kZ, kO⟩
 ·rw [if_neg c4] at H
  have c4b0 : (a1 == a2) = false := beq_eq_false_iff_ne.mpr c4
  have c4b1 : (a1 != a2) = true := bne_iff_ne.mpr c4
  replace H := Option.bind_eq_some_iff.mp H
  obtain ⟨t310, A50, H⟩ := H
  have A5 := Aside0.mk A50
  clear A50
  obtain rfl := Option.some.inj H
  go_enter Tryz.func42, Tryz.ntmps42
  go_wp2_with (first | (go_at_call 44; (with_reducible refine (spec_faShared.calls k _ _ l0 a1 a2 t310 _ ?side1 ?side2 A5.out).mono ?_); (case side1 => exact kD HR0); (case side2 => exact HC0.out); rintro e w6 ⟨rfl, hb⟩; replace HB := kH HB hb; (try clear hb)))
  go_ret
  exact ⟨kZ, kO⟩

end Go.Proofs.YtllihaahppelhaaGreat.P
namespace Go.Proofs.YtllihaahppelhaaGreat.P
open Go.RowKit Go.Proofs.YtllihaahppelhaaGreatW.PrintWords Go.Proofs.YtllihaahppelhaaGreatW.PrintLast Go.Proofs.YtllihaahppelhaaGreatW.PrintMore
attribute [local go_sem] max2_int min2_int max_two min_two max_three min_three max_four min_four   -- for this text's walks alone
set_option linter.unusedVariables false
set_option linter.unusedSimpArgs false

/-! ### spec_faCousins: function 45 -/
mutual
def spec_faCousins.j0 : Nat → List (S41) → Int → Int → Bool → Option (Bool)
 | 0, _, _, _, _ => none
 | k + 1, x0, x1, x2, x19 => if x19 = true then (some false) else ((spec_faParents.f k x0 x1).bind fun t312 => (spec_faCousins.l0 k x0 x2 t312 (t312.length : Int) 0))
def spec_faCousins.l0 : Nat → List (S41) → Int → List Int → Int → Int → Option (Bool)
 | 0, _, _, _, _, _ => none
 | k + 1, x0, x2, x22, x23, x24 => if x24 < x23 then (if 0 ≤ x24 then (if x24 < (x22.length : Int) then ((spec_faParents.f k x0 x2).bind fun t316 => (spec_faCousins.l1 k x0 x2 (rd x22 x24) x22 x23 x24 t316 (t316.length : Int) 0)) else (none)) else (none)) else (some false)
def spec_faCousins.l1 : Nat → List (S41) → Int → Int → List Int → Int → Int → List Int → Int → Int → Option (Bool)
 | 0, _, _, _, _, _, _, _, _, _ => none
 | k + 1, x0, x2, x8, x22, x23, x24, x30, x31, x32 => if x32 < x31 then (if 0 ≤ x32 then (if x32 < (x30.length : Int) then ((spec_faSiblings.f k x0 x8 (rd x30 x32)).bind fun t320 => (if t320 = true then (some true) else (spec_faCousins.l1 k x0 x2 x8 x22 x23 x24 x30 x31 (wrap64 (x32 + 1))))) else (none)) else (none)) else (spec_faCousins.l0 k x0 x2 x22 x23 (wrap64 (x24 + 1)))
end
def spec_faCousins.f (k : Nat) (l0 : List (S41)) (a1 : Int) (a2 : Int) : Option (Bool) := if a1 = a2 then (spec_faCousins.j0 k l0 a1 a2 true) else ((spec_faSiblings.f k l0 a1 a2).bind fun t311 => (spec_faCousins.j0 k l0 a1 a2 t311))
set_option maxHeartbeats 8000000 in
set_option maxRecDepth 100000 in
theorem spec_faCousins.calls (k : Nat) (A0 : Option Addr) (c0 : Nat) (l0 : List (S41)) (a1 : Int) (a2 : Int) (r : Bool) (w : World) (hr0 : Kd.C k41 w A0 l0.length l0) (hc0 : l0.length ≤ c0) (h : spec_faCousins.f k l0 a1 a2 = some r) :
  Calls Tryz.prog 45 #[.slice A0 l0.length c0, .int .i64 a1, .int .i64 a2] w fun e w' => e = .returned (.bool r) ∧ Below w.heap.size w w' := by
 have HR0 := Aside0.mk hr0
 have HC0 := Aside0.mk hc0
 clear hr0 hc0
 have HB := Aside0.mk (Below.refl w.heap.size w)
 have H : (if a1 = a2 then (spec_faCousins.j0 k l0 a1 a2 true) else ((spec_faSiblings.f k l0 a1 a2).bind fun t311 => (spec_faCousins.j0 k l0 a1 a2 t311))) = some r := h
 clear h
 have HC4 := Aside0.mk H
 clear H
 go_enter Tryz.func45, Tryz.ntmps45
 go_upto_region 1 with (fail)
 go_cut [19] from 1 to 0 (fun v19 wc => ∃ (kq : Nat) (x19_3 : Bool), v19 = .bool x19_3 ∧ Aside0 (spec_faCousins.j0 kq l0 a1 a2 x19_3 = some r) ∧ Aside0 (kq ≤ k) ∧ Aside0 (Below w.heap.size w wc))
 case first =>
  have H := HC4.out
  clear HC4
  by_cases c5 : a1 = a2
  ·rw [if_pos c5] at H
   have c5b0 : (a1 == a2) = true := beq_iff_eq.mpr c5
   have c5b1 : (a1 != a2) = false := bne_eq_false_iff_eq.mpr c5
   clear c5
   (first | rw [c5b0] | (simp only [i64_w, i32_w]; rw [c5b0]) | skip)
   have H' := Aside0.mk H
   clear H
   go_wp2
   go_meet
   case rel => exact ⟨_, (true), kY, H', ⟨by first | omega | exact Nat.le_refl _⟩, kI⟩
  ·rw [if_neg c5] at H
   have c5b0 : (a1 == a2) = false := beq_eq_false_iff_ne.mpr c5
   have c5b1 : (a1 != a2) = true := bne_iff_ne.mpr c5
   (first | rw [c5b0] | (simp only [i64_w, i32_w]; rw [c5b0]) | skip)
   replace H := Option.bind_eq_some_iff.mp H
   obtain ⟨t311, A60, H⟩ := H
   have A6 := Aside0.mk A60
   clear A60
   have H' := Aside0.mk H
   clear H
   go_wp2_with (first | (go_at_call 42; (with_reducible refine (spec_faSiblings.calls k _ _ l0 a1 a2 t311 _ ?side1 ?side2 A6.out).mono ?_); (case side1 => exact kDb HR0); (case side2 => exact HC0.out); rintro e w7 ⟨rfl, hb⟩; replace HB := kH HB hb; (try clear hb)))
   go_meet
   case rel => exact ⟨_, (t311), kY, H', ⟨by first | omega | exact Nat.le_refl _⟩, kI⟩
 case rest =>
  clear HC4
  obtain ⟨kq, x19_3, rfl, HA, HJ3, HB⟩ := hcut
  cases kq with
  | zero => exact absurd HA.out (by simp [spec_faCousins.j0])
  | succ kj3 =>
   have H := HA.out
   clear HA
   simp only [spec_faCousins.j0] at H
   by_cases c8 : x19_3 = true
   ·subst c8
    rw [if_pos rfl] at H
    obtain rfl := Option.some.inj H
    go_wp2
    go_ret
    exact ⟨kZ, kO⟩
   ·replace c8 := Bool.eq_false_iff.mpr c8
    subst c8
    rw [if_neg (show ¬ (false = true) by decide)] at H
    replace H := Option.bind_eq_some_iff.mp H
    obtain ⟨t312, A90, H⟩ := H
    have A9 := Aside0.mk A90
    clear A90
    have H' := Aside0.mk H
    clear H
    go_wp2_with (first | ((with_reducible refine gate_callee (f := 57) rfl ?_); refine kE (some 22) Tryz.func57 #[.slice A0 l0.length c0, .int .i64 a1] rfl ?_; (with_reducible refine (spec_faParents.calls kj3 _ _ l0 a1 t312 _ ?side1 ?side2 A9.out).mono ?_); (case side1 => exact kDb HR0); (case side2 => exact HC0.out); rintro e w10 ⟨v313, rfl, ho0, hb⟩; refine ⟨_, rfl, ?_⟩; have n0_ := Aside0.mk (Kd.R_lower ho0 (below_size kO)); have n1_ := kH HB hb; clear HB; have HO314 := n0_; have HB := n1_; clear n0_ n1_; (try clear hb); (try clear ho0); obtain ⟨Ao11, co11, eo11⟩ := Kd.R_slice HO314.out; subst eo11))
    go_loopg [24] kj3 (fun kq v24 w' => ∃ (x24_2 : Int), v24 = .int .i64 x24_2 ∧ Aside0 (spec_faCousins.l0 kq l0 a2 t312 (t312.length : Int) x24_2 = some r) ∧ Aside0 (kq ≤ kj3) ∧ Aside0 (Kd.R (Kd.int .i64) 3 w' w.heap.size (fun _ => True) (.slice Ao11 t312.length co11) t312) ∧ Aside0 (Below w.heap.size w w'))
    case atStart => exact ⟨(0), kY, H', ⟨Nat.le_refl _⟩, ⟨kW HO314⟩, kI⟩
    case round =>
     clear H'
     try clear c8
     obtain ⟨x24_2, rfl, HA, HK2, HO_22, HB⟩ := hrel
     cases gk with
     | zero => exact absurd HA.out (by simp [spec_faCousins.l0])
     | succ k2 =>
      have H := HA.out
      clear HA
      simp only [spec_faCousins.l0] at H
      by_cases c12 : x24_2 < (t312.length : Int)
      ·rw [if_pos c12] at H
       have c12b0 : decide (x24_2 < (t312.length : Int)) = true := decide_eq_true c12
       clear c12
       by_cases c13 : 0 ≤ x24_2
       ·rw [if_pos c13] at H
        have c13b0 : decide (0 ≤ x24_2) = true := decide_eq_true c13
        clear c13
        by_cases c14 : x24_2 < (t312.length : Int)
        ·rw [if_pos c14] at H
         have c14b0 : decide (x24_2 < (t312.length : Int)) = true := decide_eq_true c14
         clear c14
         replace H := Option.bind_eq_some_iff.mp H
         obtain ⟨t316, A150, H⟩ := H
         have A15 := Aside0.mk A150
         clear A150
         have H' := Aside0.mk H
         clear H
         have p315 : 0 ≤ (x24_2 : Int) := of_decide_eq_true (by first | (with_reducible assumption) | assumption)
         have q315 : x24_2 < (t312.length : Int) := of_decide_eq_true (by first | (with_reducible assumption) | assumption)
         obtain ⟨ad315, e315, hx315_0⟩ := Kd.at_int (Kd.R_reads' HO_22.out).2.2 x24_2 p315 q315
         cases e315
         replace p315 := eq_true p315
         replace q315 := eq_true q315
         go_wp2_with (first | ((with_reducible refine gate_callee (f := 57) rfl ?_); refine kE (some 30) Tryz.func57 #[.slice A0 l0.length c0, .int .i64 a2] rfl ?_; (with_reducible refine (spec_faParents.calls k2 _ _ l0 a2 t316 _ ?side1 ?side2 A15.out).mono ?_); (case side1 => exact kDb HR0); (case side2 => exact HC0.out); rintro e w16 ⟨v317, rfl, ho0, hb⟩; refine ⟨_, rfl, ?_⟩; have n0_ := Aside0.mk (Kd.R_elder' (kW HO_22) (Kd.R_base ho0) hb); have n1_ := Aside0.mk (Kd.R_lower (Kd.R_new' ho0 (Kd.R_lt (kW HO_22))) (below_size kO)); have n2_ := kH HB hb; clear HO_22; clear HB; have HO_22 := n0_; have HO318 := n1_; have HB := n2_; clear n0_ n1_ n2_; (try clear hb); (try clear ho0); obtain ⟨Ao17, co17, eo17⟩ := Kd.R_slice HO318.out; subst eo17))
         go_loopg [32] k2 (fun kq v32 w' => ∃ (x32_3 : Int), v32 = .int .i64 x32_3 ∧ Aside0 (spec_faCousins.l1 kq l0 a2 (rd t312 x24_2) t312 (t312.length : Int) x24_2 t316 (t316.length : Int) x32_3 = some r) ∧ Aside0 (kq ≤ k2) ∧ Aside0 (Kd.R (Kd.int .i64) 3 w' w.heap.size (fun k_ => some k_ ≠ ((.slice Ao17 t316.length co17) : Value).ownBlock) (.slice (some ad315) t312.length co11) t312) ∧ Aside0 (Kd.R (Kd.int .i64) 3 w' w.heap.size (fun k_ => some k_ ≠ ((.slice (some ad315) t312.length co11) : Value).ownBlock) (.slice Ao17 t316.length co17) t316) ∧ Aside0 (Below w.heap.size w w'))
         case atStart => exact ⟨(0), kY, H', ⟨Nat.le_refl _⟩, ⟨by (with_reducible repeat (first | apply Kd.R_alloc | apply Kd.R_drewN | apply Kd.R_drew)); exact Kd.R_mono HO_22.out (fun _ hk => hk.2)⟩, ⟨by (with_reducible repeat (first | apply Kd.R_alloc | apply Kd.R_drewN | apply Kd.R_drew)); exact Kd.R_mono HO318.out (fun _ hk => hk.2)⟩, kI⟩
         case round =>
          clear H'
          try clear c8
          try clear c12
          try clear c12b0
          try clear c13
          try clear c13b0
          try clear c14
          try clear c14b0
          try clear p315
          obtain ⟨x32_3, rfl, HA, HK3, HO_22, HO_30, HB⟩ := hrel
          cases gk with
          | zero => exact absurd HA.out (by simp [spec_faCousins.l1])
          | succ k3 =>
           have H := HA.out
           clear HA
           simp only [spec_faCousins.l1] at H
           by_cases c18 : x32_3 < (t316.length : Int)
           ·rw [if_pos c18] at H
            have c18b0 : decide (x32_3 < (t316.length : Int)) = true := decide_eq_true c18
            clear c18
            by_cases c19 : 0 ≤ x32_3
            ·rw [if_pos c19] at H
             have c19b0 : decide (0 ≤ x32_3) = true := decide_eq_true c19
             clear c19
             by_cases c20 : x32_3 < (t316.length : Int)
             ·rw [if_pos c20] at H
              have c20b0 : decide (x32_3 < (t316.length : Int)) = true := decide_eq_true c20
              clear c20
              replace H := Option.bind_eq_some_iff.mp H
              obtain ⟨t320, A210, H⟩ := H
              have A21 := Aside0.mk A210
              clear A210
              by_cases c22 : t320 = true
              ·subst c22
               rw [if_pos rfl] at H
               obtain rfl := Option.some.inj H
               have p319 : 0 ≤ (x32_3 : Int) := of_decide_eq_true (by first | (with_reducible assumption) | assumption)
               have q319 : x32_3 < (t316.length : Int) := of_decide_eq_true (by first | (with_reducible assumption) | assumption)
               obtain ⟨ad319, e319, hx319_0⟩ := Kd.at_int (Kd.R_reads' HO_30.out).2.2 x32_3 p319 q319
               cases e319
               replace p319 := eq_true p319
               replace q319 := eq_true q319
               go_wp2_with (first | ((with_reducible refine gate_callee (f := 42) rfl ?_); refine kE (some 39) Tryz.func42 #[.slice A0 l0.length c0, .int .i64 (rd t312 x24_2), .int .i64 (rd t316 x32_3)] rfl ?_; (with_reducible refine (spec_faSiblings.calls k3 _ _ l0 (rd t312 x24_2) (rd t316 x32_3) true _ ?side1 ?side2 A21.out).mono ?_); (case side1 => exact kDb HR0); (case side2 => exact HC0.out); rintro e w23 ⟨rfl, hb⟩; refine ⟨_, rfl, ?_⟩; have n0_ := Aside0.mk (Kd.R_below (kW HO_22) hb); have n1_ := Aside0.mk (Kd.R_below (kW HO_30) hb); have n2_ := kH HB hb; clear HO_22; clear HO_30; clear HB; have HO_22 := n0_; have HO_30 := n1_; have HB := n2_; clear n0_ n1_ n2_; (try clear hb)))
               go_ret
               exact ⟨kZ, kO⟩
              ·replace c22 := Bool.eq_false_iff.mpr c22
               subst c22
               rw [if_neg (show ¬ (false = true) by decide)] at H
               have H' := Aside0.mk H
               clear H
               have p319 : 0 ≤ (x32_3 : Int) := of_decide_eq_true (by first | (with_reducible assumption) | assumption)
               have q319 : x32_3 < (t316.length : Int) := of_decide_eq_true (by first | (with_reducible assumption) | assumption)
               obtain ⟨ad319, e319, hx319_0⟩ := Kd.at_int (Kd.R_reads' HO_30.out).2.2 x32_3 p319 q319
               cases e319
               replace p319 := eq_true p319
               replace q319 := eq_true q319
               go_wp2_with (first | ((with_reducible refine gate_callee (f := 42) rfl ?_); refine kE (some 39) Tryz.func42 #[.slice A0 l0.length c0, .int .i64 (rd t312 x24_2), .int .i64 (rd t316 x32_3)] rfl ?_; (with_reducible refine (spec_faSiblings.calls k3 _ _ l0 (rd t312 x24_2) (rd t316 x32_3) false _ ?side1 ?side2 A21.out).mono ?_); (case side1 => exact kDb HR0); (case side2 => exact HC0.out); rintro e w24 ⟨rfl, hb⟩; refine ⟨_, rfl, ?_⟩; have n0_ := Aside0.mk (Kd.R_below (kW HO_22) hb); have n1_ := Aside0.mk (Kd.R_below (kW HO_30) hb); have n2_ := kH HB hb; clear HO_22; clear HO_30; clear HB; have HO_22 := n0_; have HO_30 := n1_; have HB := n2_; clear n0_ n1_ n2_; (try clear hb)))
               go_roundg k3
               case measure => have := HJ3.out; have := HK2.out; have := HK3.out; omega
               case rel => exact ⟨(wrap64 (x32_3 + 1)), kY, H', ⟨by have := HJ3.out; have := HK2.out; have := HK3.out; omega⟩, ⟨kW HO_22⟩, ⟨kW HO_30⟩, kI⟩
             ·rw [if_neg c20] at H
              exact absurd H (by simp)
            ·rw [if_neg c19] at H
             exact absurd H (by simp)
           ·rw [if_neg c18] at H
            have c18b0 : decide (x32_3 < (t316.length : Int)) = false := decide_eq_false c18
            clear c18
            have H' := Aside0.mk H
            clear H
            go_wp2
            go_roundg k3
            case measure => have := HJ3.out; have := HK2.out; have := HK3.out; omega
            case rel => exact ⟨(wrap64 (x24_2 + 1)), kY, H', ⟨by have := HJ3.out; have := HK2.out; have := HK3.out; omega⟩, ⟨by (with_reducible repeat (first | apply Kd.R_alloc | apply Kd.R_drewN | apply Kd.R_drew)); exact Kd.R_mono HO_22.out (fun _ hk => trivial)⟩, kI⟩
        ·rw [if_neg c14] at H
         exact absurd H (by simp)
       ·rw [if_neg c13] at H
        exact absurd H (by simp)
      ·rw [if_neg c12] at H
       have c12b0 : decide (x24_2 < (t312.length : Int)) = false := decide_eq_false c12
       clear c12
       obtain rfl := Option.some.inj H
       go_wp2
       go_ret
       exact ⟨kZ, kO⟩

/-! ### spec_faAbove: function 74 -/
mutual
def spec_faAbove.l0 : Nat → List (S41) → Int → List Bool → Int → Option (List Bool)
 | 0, _, _, _, _ => none
 | k + 1, x0, x1, x5, x6 => if x6 ≥ 0 then (if x6 = x1 then (spec_faAbove.j1 k x0 x1 x5 x6 true) else (if 0 ≤ x6 then (if x6 < (x5.length : Int) then (spec_faAbove.j1 k x0 x1 x5 x6 (rdOf false x5 x6)) else (none)) else (none))) else (some x5)
def spec_faAbove.j1 : Nat → List (S41) → Int → List Bool → Int → Bool → Option (List Bool)
 | 0, _, _, _, _, _ => none
 | k + 1, x0, x1, x5, x6, x25 => if x25 = true then ((spec_faParents.f k x0 x6).bind fun t325 => (spec_faAbove.l1 k x0 x1 x5 x6 t325 (t325.length : Int) 0)) else (spec_faAbove.l0 k x0 x1 x5 (wrap64 (x6 - 1)))
def spec_faAbove.l1 : Nat → List (S41) → Int → List Bool → Int → List Int → Int → Int → Option (List Bool)
 | 0, _, _, _, _, _, _, _ => none
 | k + 1, x0, x1, x5, x6, x28, x29, x30 => if x30 < x29 then (if 0 ≤ x30 then (if x30 < (x28.length : Int) then (if 0 ≤ (rd x28 x30) then (if (rd x28 x30) < (x5.length : Int) then (spec_faAbove.l1 k x0 x1 (x5.set ((rd x28 x30) : Int).toNat true) x6 x28 x29 (wrap64 (x30 + 1))) else (none)) else (none)) else (none)) else (none)) else (spec_faAbove.l0 k x0 x1 x5 (wrap64 (x6 - 1)))
end
def spec_faAbove.f (k : Nat) (l0 : List (S41)) (a1 : Int) : Option (List Bool) := if 0 ≤ (l0.length : Int) then (if ((l0.length : Int) : Int).toNat ≤ 281474976710656 then (spec_faAbove.l0 k l0 a1 (List.replicate ((l0.length : Int) : Int).toNat false) a1) else (none)) else (none)
set_option maxHeartbeats 8000000 in
set_option maxRecDepth 100000 in
theorem spec_faAbove.calls (k : Nat) (A0 : Option Addr) (c0 : Nat) (l0 : List (S41)) (a1 : Int) (r : List Bool) (w : World) (hr0 : Kd.C k41 w A0 l0.length l0) (hc0 : l0.length ≤ c0) (h : spec_faAbove.f k l0 a1 = some r) :
  Calls Tryz.prog 74 #[.slice A0 l0.length c0, .int .i64 a1] w fun e w' => ∃ v0_ : Value, e = .returned (v0_) ∧ Kd.R Kd.bool 4 w' w.heap.size (fun _ => True) v0_ r ∧ Below w.heap.size w w' := by
 have HR0 := Aside0.mk hr0
 have HC0 := Aside0.mk hc0
 clear hr0 hc0
 have HB := Aside0.mk (Below.refl w.heap.size w)
 have H : (if 0 ≤ (l0.length : Int) then (if ((l0.length : Int) : Int).toNat ≤ 281474976710656 then (spec_faAbove.l0 k l0 a1 (List.replicate ((l0.length : Int) : Int).toNat false) a1) else (none)) else (none)) = some r := h
 clear h
 by_cases c3 : 0 ≤ (l0.length : Int)
 ·rw [if_pos c3] at H
  have c3b0 := eq_true c3
  have c3b1 : decide (0 ≤ (l0.length : Int)) = true := decide_eq_true c3
  clear c3
  by_cases c4 : ((l0.length : Int) : Int).toNat ≤ 281474976710656
  ·rw [if_pos c4] at H
   have c4b0 := eq_true c4
   have c4b1 : decide (((l0.length : Int) : Int).toNat ≤ 281474976710656) = true := decide_eq_true c4
   clear c4
   obtain ⟨y321, hy321⟩ : ∃ y_ : List Bool, y_ = (List.replicate ((l0.length : Int) : Int).toNat false) := ⟨_, rfl⟩
   replace H : (spec_faAbove.l0 k l0 a1 y321 a1) = some r := by first | (rw [hy321]; with_reducible exact H) | (have H2_ := (Option.bind_some _ _).symm.trans H; rw [hy321]; with_reducible exact H2_) | (have H2_ := (Option.bind_some _ _).symm.trans H; with_reducible exact H2_) | with_reducible exact H | (rw [hy321]; exact H) | exact H
   have Ny321 := Aside0.mk hy321
   clear hy321
   have H' := Aside0.mk H
   clear H
   go_enter Tryz.func74, Tryz.ntmps74
   go_wp2_with (first | ((with_reducible refine gate_dst (N := 11) rfl ?_); refine Kd.R_make Kd.bool _ 4 rfl (N := 11) rfl 69 _ _ rfl (l0.length : Int) rfl rfl Tryz.underlying69 (.bool false) 1 info4 rfl (by decide) (by omega) false (ok := fun _ => True) (okp := fun _ => True) rfl (fun _ hk => hk) trivial (of_decide_eq_true (by first | (with_reducible assumption) | assumption)) (Nat.le_trans (Nat.mul_le_mul_right _ (of_decide_eq_true (by first | (with_reducible assumption) | assumption) : (l0.length : Int).toNat ≤ 281474976710656)) (by omega)) (Below.refl _ _) (Nat.le_refl _) ?_; intro v322 w5 ho6 hb hg_ hnew_; clear hg_ hnew_; (first | rw [← Ny321.out] at ho6 | (simp only [Int.reduceToNat] at ho6; rw [← Ny321.out] at ho6)); have n0_ := Aside0.mk (Kd.R_lower ho6 (below_size kO)); have n1_ := kH HB hb; clear HB; have HO323 := n0_; have HB := n1_; clear n0_ n1_; clear hb ho6))
   go_loopg [6] k (fun kq v6 w' => ∃ (x5_1 : List Bool) (x6_1 : Int), v6 = .int .i64 x6_1 ∧ Aside0 (spec_faAbove.l0 kq l0 a1 x5_1 x6_1 = some r) ∧ Aside0 (kq ≤ k) ∧ Aside0 (Kd.R Kd.bool 4 w' w.heap.size (fun _ => True) v322 x5_1) ∧ Aside0 (Below w.heap.size w w'))
   case atStart => exact ⟨(y321), (a1), kY, H', ⟨Nat.le_refl _⟩, ⟨kW HO323⟩, kI⟩
   case round =>
    clear H'
    try clear c3
    try clear c3b0
    try clear c3b1
    try clear c4
    try clear c4b0
    try clear c4b1
    obtain ⟨x5_1, x6_1, rfl, HA, HK1, HO_5, HB⟩ := hrel
    cases gk with
    | zero => exact absurd HA.out (by simp [spec_faAbove.l0])
    | succ k1 =>
     have H := HA.out
     clear HA
     simp only [spec_faAbove.l0] at H
     by_cases c7 : x6_1 ≥ 0
     ·rw [if_pos c7] at H
      have c7b0 : decide (0 ≤ x6_1) = true := decide_eq_true c7
      clear c7
      have HC8 := Aside0.mk H
      clear H
      go_upto_region 5 with (fail)
      go_cut [25] from 1 to 0 (fun v25 wc => ∃ (kq : Nat) (x25_7 : Bool), v25 = .bool x25_7 ∧ Aside0 (spec_faAbove.j1 kq l0 a1 x5_1 x6_1 x25_7 = some r) ∧ Aside0 (kq ≤ k1) ∧ Aside0 (Kd.R Kd.bool 4 wc w.heap.size (fun _ => True) v322 x5_1) ∧ Aside0 (Below w.heap.size w wc))
      case first =>
       have H := HC8.out
       clear HC8
       by_cases c9 : x6_1 = a1
       ·rw [if_pos c9] at H
        have c9b0 : (x6_1 == a1) = true := beq_iff_eq.mpr c9
        have c9b1 : (x6_1 != a1) = false := bne_eq_false_iff_eq.mpr c9
        clear c9
        (first | rw [c9b0] | (simp only [i64_w, i32_w]; rw [c9b0]) | skip)
        have H' := Aside0.mk H
        clear H
        go_wp2
        go_meet
        case rel => exact ⟨_, (true), kY, H', ⟨by have := HK1.out; first | omega | exact Nat.le_refl _⟩, ⟨kW HO_5⟩, kI⟩
       ·rw [if_neg c9] at H
        have c9b0 : (x6_1 == a1) = false := beq_eq_false_iff_ne.mpr c9
        have c9b1 : (x6_1 != a1) = true := bne_iff_ne.mpr c9
        (first | rw [c9b0] | (simp only [i64_w, i32_w]; rw [c9b0]) | skip)
        by_cases c10 : 0 ≤ x6_1
        ·rw [if_pos c10] at H
         have c10b0 : decide (0 ≤ x6_1) = true := decide_eq_true c10
         clear c10
         by_cases c11 : x6_1 < (x5_1.length : Int)
         ·rw [if_pos c11] at H
          have c11b0 : decide (x6_1 < (x5_1.length : Int)) = true := decide_eq_true c11
          clear c11
          have H' := Aside0.mk H
          clear H
          obtain ⟨Ao12, co12, eo12⟩ := Kd.R_slice HO_5.out
          subst eo12
          have p324 : 0 ≤ (x6_1 : Int) := of_decide_eq_true (by first | (with_reducible assumption) | assumption)
          have q324 : x6_1 < (x5_1.length : Int) := of_decide_eq_true (by first | (with_reducible assumption) | assumption)
          obtain ⟨ad324, e324, hx324_0⟩ := Kd.at_bool (Kd.R_reads' HO_5.out).2.2 x6_1 p324 q324
          cases e324
          replace p324 := eq_true p324
          replace q324 := eq_true q324
          go_wp2
          go_meet
          case rel => exact ⟨_, (rdOf false x5_1 x6_1), kY, H', ⟨by have := HK1.out; first | omega | exact Nat.le_refl _⟩, ⟨kW HO_5⟩, kI⟩
         ·rw [if_neg c11] at H
          exact absurd H (by simp)
        ·rw [if_neg c10] at H
         exact absurd H (by simp)
      case rest =>
       clear HC8
       try clear c3
       try clear c3b0
       try clear c3b1
       try clear c4
       try clear c4b0
       try clear c4b1
       try clear c7
       try clear c7b0
       obtain ⟨kq, x25_7, rfl, HA, HJ7, HO_5, HB⟩ := hcut
       cases kq with
       | zero => exact absurd HA.out (by simp [spec_faAbove.j1])
       | succ kj7 =>
        have H := HA.out
        clear HA
        simp only [spec_faAbove.j1] at H
        by_cases c13 : x25_7 = true
        ·subst c13
         rw [if_pos rfl] at H
         replace H := Option.bind_eq_some_iff.mp H
         obtain ⟨t325, A140, H⟩ := H
         have A14 := Aside0.mk A140
         clear A140
         have H' := Aside0.mk H
         clear H
         go_wp2_with (first | ((with_reducible refine gate_callee (f := 57) rfl ?_); refine kE (some 28) Tryz.func57 #[.slice A0 l0.length c0, .int .i64 x6_1] rfl ?_; (with_reducible refine (spec_faParents.calls kj7 _ _ l0 x6_1 t325 _ ?side1 ?side2 A14.out).mono ?_); (case side1 => exact kDb HR0); (case side2 => exact HC0.out); rintro e w15 ⟨v326, rfl, ho0, hb⟩; refine ⟨_, rfl, ?_⟩; have n0_ := Aside0.mk (Kd.R_below (kW HO_5) hb); have n1_ := Aside0.mk (Kd.R_lower ho0 (below_size kO)); have n2_ := kH HB hb; clear HO_5; clear HB; have HO_5 := n0_; have HO327 := n1_; have HB := n2_; clear n0_ n1_ n2_; (try clear hb); (try clear ho0); obtain ⟨Ao16, co16, eo16⟩ := Kd.R_slice HO327.out; subst eo16))
         go_loopg [30] kj7 (fun kq v30 w' => ∃ (x5_3 : List Bool) (x30_3 : Int), v30 = .int .i64 x30_3 ∧ Aside0 (spec_faAbove.l1 kq l0 a1 x5_3 x6_1 t325 (t325.length : Int) x30_3 = some r) ∧ Aside0 (kq ≤ kj7) ∧ Aside0 (Kd.R Kd.bool 4 w' w.heap.size (fun _ => True) v322 x5_3) ∧ Aside0 (Kd.R (Kd.int .i64) 3 w' w.heap.size (fun _ => True) (.slice Ao16 t325.length co16) t325) ∧ Aside0 (Below w.heap.size w w'))
         case atStart => exact ⟨(x5_1), (0), kY, H', ⟨Nat.le_refl _⟩, ⟨kW HO_5⟩, ⟨kW HO327⟩, kI⟩
         case round =>
          clear H'
          try clear c3
          try clear c3b0
          try clear c3b1
          try clear c4
          try clear c4b0
          try clear c4b1
          try clear c7
          try clear c7b0
          try clear c13
          obtain ⟨x5_3, x30_3, rfl, HA, HK3, HO_5, HO_28, HB⟩ := hrel
          cases gk with
          | zero => exact absurd HA.out (by simp [spec_faAbove.l1])
          | succ k3 =>
           have H := HA.out
           clear HA
           simp only [spec_faAbove.l1] at H
           by_cases c17 : x30_3 < (t325.length : Int)
           ·rw [if_pos c17] at H
            have c17b0 : decide (x30_3 < (t325.length : Int)) = true := decide_eq_true c17
            clear c17
            by_cases c18 : 0 ≤ x30_3
            ·rw [if_pos c18] at H
             have c18b0 : decide (0 ≤ x30_3) = true := decide_eq_true c18
             clear c18
             by_cases c19 : x30_3 < (t325.length : Int)
             ·rw [if_pos c19] at H
              have c19b0 : decide (x30_3 < (t325.length : Int)) = true := decide_eq_true c19
              clear c19
              by_cases c20 : 0 ≤ (rd t325 x30_3)
              ·rw [if_pos c20] at H
               have c20b0 : decide (0 ≤ (rd t325 x30_3)) = true := decide_eq_true c20
               clear c20
               by_cases c21 : (rd t325 x30_3) < (x5_3.length : Int)
               ·rw [if_pos c21] at H
                have c21b0 : decide ((rd t325 x30_3) < (x5_3.length : Int)) = true := decide_eq_true c21
                clear c21
                obtain ⟨y329, hy329⟩ : ∃ y_ : List Bool, y_ = (x5_3.set ((rd t325 x30_3) : Int).toNat true) := ⟨_, rfl⟩
                replace H : (spec_faAbove.l1 k3 l0 a1 y329 x6_1 t325 (t325.length : Int) (wrap64 (x30_3 + 1))) = some r := by first | (rw [hy329]; with_reducible exact H) | (have H2_ := (Option.bind_some _ _).symm.trans H; rw [hy329]; with_reducible exact H2_) | (have H2_ := (Option.bind_some _ _).symm.trans H; with_reducible exact H2_) | with_reducible exact H | (rw [hy329]; exact H) | exact H
                have Ny329 := Aside0.mk hy329
                clear hy329
                have H' := Aside0.mk H
                clear H
                have p328 : 0 ≤ (x30_3 : Int) := of_decide_eq_true (by first | (with_reducible assumption) | assumption)
                have q328 : x30_3 < (t325.length : Int) := of_decide_eq_true (by first | (with_reducible assumption) | assumption)
                obtain ⟨ad328, e328, hx328_0⟩ := Kd.at_int (Kd.R_reads' HO_28.out).2.2 x30_3 p328 q328
                cases e328
                replace p328 := eq_true p328
                replace q328 := eq_true q328
                have p22 : 0 ≤ ((rd t325 x30_3) : Int) := of_decide_eq_true (by first | (with_reducible assumption) | assumption)
                have q22 : ((rd t325 x30_3) : Int) < ((x5_3.length : Int) : Int) := of_decide_eq_true (by first | (with_reducible assumption) | assumption)
                obtain ⟨go22, co22, eo22, gb22, gl22, cl22, HG22⟩ := Kd.R_form HO_5.out (by omega)
                (first | cases eo22 | (injection eo22 with ea_ en_ ec_; (first | subst ea_ | (injection ea_ with ea_; subst ea_)); subst ec_; clear en_))
                have GB22 := Aside0.mk gb22
                have GG22 := Aside0.mk HG22
                clear gb22 gl22 HG22
                obtain ⟨hx22_0, hf22_0⟩ := Kd.R_celln false HO_5.out ((rd t325 x30_3) : Int) p22 q22
                replace p22 := eq_true p22
                replace q22 := eq_true q22
                have HP23 := Kd.R_putg HO_5.out ((rd t325 x30_3) : Int) true
                go_wp2_with (first | ((with_reducible refine gate_store (t := 4) (p := 36) rfl ?_); refine store_event (t := 4) (p := 36) (v := ?vo_w24) (w1 := (wr.setCell ⟨go22, ((rd t325 x30_3) : Int).toNat, none⟩ (.bool true))) ?hg ?ho ?hn ?hr ?_; (case ho => rfl); (case hg => rfl); (case hn => rfl); (case hr => first | (go_simp; done) | (go_simp; rfl)); intro w24 hw; have hg : wr.grownBy w24 (some go22) := (by rw [hw]; exact HP23.2); have hp_ : Kd.R Kd.bool 4 w24 w.heap.size (fun _ => True) (.slice (some ⟨go22, 0, none⟩) x5_3.length co22) y329 := (by rw [hw, Ny329.out]; exact HP23.1); clear HP23; have n0_ := Aside0.mk (hp_); have n1_ := Aside0.mk (Kd.R_over' (v := (.slice (some ⟨go22, 0, none⟩) x5_3.length co22)) (kW HO_28) (Kd.R_typed HO_5.out) (by decide) hg); have n2_ := Aside0.mk ((by rw [hw]; exact below_set (HB.out) GB22.out : Below w.heap.size w w24)); clear HO_5; clear HO_28; clear HB; have HO_5 := n0_; have HO_28 := n1_; have HB := n2_; clear n0_ n1_ n2_; clear hg hw hp_))
                go_roundg k3
                case measure => have := HK1.out; have := HJ7.out; have := HK3.out; omega
                case rel => exact ⟨(y329), (wrap64 (x30_3 + 1)), kY, H', ⟨by have := HK1.out; have := HJ7.out; have := HK3.out; omega⟩, ⟨kW HO_5⟩, ⟨kW HO_28⟩, kI⟩
               ·rw [if_neg c21] at H
                exact absurd H (by simp)
              ·rw [if_neg c20] at H
               exact absurd H (by simp)
             ·rw [if_neg c19] at H
              exact absurd H (by simp)
            ·rw [if_neg c18] at H
             exact absurd H (by simp)
           ·rw [if_neg c17] at H
            have c17b0 : decide (x30_3 < (t325.length : Int)) = false := decide_eq_false c17
            clear c17
            have H' := Aside0.mk H
            clear H
            go_wp2
            go_roundg k3
            case measure => have := HK1.out; have := HJ7.out; have := HK3.out; omega
            case rel => exact ⟨(x5_3), (wrap64 (x6_1 - 1)), kY, H', ⟨by have := HK1.out; have := HJ7.out; have := HK3.out; omega⟩, ⟨kW HO_5⟩, kI⟩
        ·replace c13 := Bool.eq_false_iff.mpr c13
         subst c13
         rw [if_neg (show ¬ (false = true) by decide)] at H
         have H' := Aside0.mk H
         clear H
         go_wp2
         go_roundg kj7
         case measure => have := HK1.out; have := HJ7.out; omega
         case rel => exact ⟨(x5_1), (wrap64 (x6_1 - 1)), kY, H', ⟨by have := HK1.out; have := HJ7.out; omega⟩, ⟨kW HO_5⟩, kI⟩
     ·rw [if_neg c7] at H
      have c7b0 : decide (0 ≤ x6_1) = false := decide_eq_false c7
      clear c7
      obtain rfl := Option.some.inj H
      go_wp2
      go_ret
      exact ⟨_, kZ, kW HO_5, kO⟩
  ·rw [if_neg c4] at H
   exact absurd H (by simp)
 ·rw [if_neg c3] at H
  exact absurd H (by simp)

/-! ### spec_faList: function 75 -/
def spec_faList.l0 : Nat → List Int → List Bool → Int → Int → Option (List Int)
 | 0, _, _, _, _ => none
 | k + 1, x3, x6, x7, x8 => if x8 < x7 then (if 0 ≤ x8 then (if x8 < (x6.length : Int) then (if rdOf false x6 x8 = true then (if x3.length < 17592186044416 then (spec_faList.l0 k (x3 ++ [x8]) x6 x7 (wrap64 (x8 + 1))) else (none)) else (spec_faList.l0 k x3 x6 x7 (wrap64 (x8 + 1)))) else (none)) else (none)) else (some x3)
def spec_faList.f (k : Nat) (l0 : List Bool) : Option (List Int) := spec_faList.l0 k ([] : List Int) l0 (l0.length : Int) 0
set_option maxHeartbeats 8000000 in
set_option maxRecDepth 100000 in
theorem spec_faList.calls (k : Nat) (A0 : Option Addr) (c0 : Nat) (l0 : List Bool) (r : List Int) (w : World) (hr0 : Kd.C Kd.bool w A0 l0.length l0) (hc0 : l0.length ≤ c0) (h : spec_faList.f k l0 = some r) :
  Calls Tryz.prog 75 #[.slice A0 l0.length c0] w fun e w' => ∃ v0_ : Value, e = .returned (v0_) ∧ Kd.R (Kd.int .i64) 3 w' w.heap.size (fun _ => True) v0_ r ∧ Below w.heap.size w w' := by
 have HR0 := Aside0.mk hr0
 have HC0 := Aside0.mk hc0
 clear hr0 hc0
 have HB := Aside0.mk (Below.refl w.heap.size w)
 have H : (spec_faList.l0 k ([] : List Int) l0 (l0.length : Int) 0) = some r := h
 clear h
 have H' := Aside0.mk H
 clear H
 go_enter Tryz.func75, Tryz.ntmps75
 go_wp2
 go_loopg [3, 8] k (fun kq v3 v8 w' => ∃ (x3_1 : List Int) (x8_1 : Int), v8 = .int .i64 x8_1 ∧ Aside0 (spec_faList.l0 kq x3_1 l0 (l0.length : Int) x8_1 = some r) ∧ Aside0 (kq ≤ k) ∧ Aside0 (Kd.R (Kd.int .i64) 3 w' w.heap.size (fun _ => True) v3 x3_1) ∧ Aside0 (Below w.heap.size w w'))
 case atStart => exact ⟨(([] : List Int)), (0), kY, H', ⟨Nat.le_refl _⟩, ⟨by first | exact Kd.R_nil _ _ _ _ _ | exact Kd.N_nil _ _ _ _ _ | exact Kd.V_nil _ _ _ _ _ | exact Kd.Q_nil _ _ _ _ _ | exact Kd.S_nil _ _ _ _ _⟩, kI⟩
 case round =>
  clear H'
  obtain ⟨x3_1, x8_1, rfl, HA, HK1, HO_3, HB⟩ := hrel
  cases gk with
  | zero => exact absurd HA.out (by simp [spec_faList.l0])
  | succ k1 =>
   have H := HA.out
   clear HA
   simp only [spec_faList.l0] at H
   by_cases c2 : x8_1 < (l0.length : Int)
   ·rw [if_pos c2] at H
    have c2b0 : decide (x8_1 < (l0.length : Int)) = true := decide_eq_true c2
    clear c2
    by_cases c3 : 0 ≤ x8_1
    ·rw [if_pos c3] at H
     have c3b0 : decide (0 ≤ x8_1) = true := decide_eq_true c3
     clear c3
     by_cases c4 : x8_1 < (l0.length : Int)
     ·rw [if_pos c4] at H
      have c4b0 : decide (x8_1 < (l0.length : Int)) = true := decide_eq_true c4
      clear c4
      obtain ⟨bq5, hbq5⟩ : ∃ b_ : Bool, b_ = (rdOf false l0 x8_1) := ⟨_, rfl⟩
      replace H : (if bq5 = true then (if x3_1.length < 17592186044416 then (spec_faList.l0 k1 (x3_1 ++ [x8_1]) l0 (l0.length : Int) (wrap64 (x8_1 + 1))) else (none)) else (spec_faList.l0 k1 x3_1 l0 (l0.length : Int) (wrap64 (x8_1 + 1)))) = some r := by rw [← hbq5] at H; exact H
      have Nbq5 := Aside0.mk hbq5
      clear hbq5
      by_cases c6 : bq5 = true
      ·subst c6
       rw [if_pos rfl] at H
       by_cases c7 : x3_1.length < 17592186044416
       ·rw [if_pos c7] at H
        have LMc7 := Aside0.mk c7
        clear c7
        obtain ⟨y331, hy331⟩ : ∃ y_ : List Int, y_ = (x3_1 ++ [x8_1]) := ⟨_, rfl⟩
        replace H : (spec_faList.l0 k1 y331 l0 (l0.length : Int) (wrap64 (x8_1 + 1))) = some r := by first | (rw [hy331]; with_reducible exact H) | (have H2_ := (Option.bind_some _ _).symm.trans H; rw [hy331]; with_reducible exact H2_) | (have H2_ := (Option.bind_some _ _).symm.trans H; with_reducible exact H2_) | with_reducible exact H | (rw [hy331]; exact H) | exact H
        have Ny331 := Aside0.mk hy331
        clear hy331
        have H' := Aside0.mk H
        clear H
        have p330 : 0 ≤ (x8_1 : Int) := of_decide_eq_true (by first | (with_reducible assumption) | assumption)
        have q330 : x8_1 < (l0.length : Int) := of_decide_eq_true (by first | (with_reducible assumption) | assumption)
        obtain ⟨ad330, e330, hx330_0⟩ := Kd.at_bool HR0.out x8_1 p330 q330
        (try rw [← Nbq5.out] at hx330_0)
        cases e330
        replace hx330_0 := (HB.out.cell (World.block_lt_of_cell? w _ hx330_0)).trans hx330_0
        replace p330 := eq_true p330
        replace q330 := eq_true q330
        go_wp2_with (first | ((with_reducible refine gate_builtin (b := .append) (xs := #[.tmp 14, .tmp 16]) rfl ?_); at_builtin; refine Kd.R_append (Kd.int .i64) (w0 := w) w.heap.size rfl (.tmp 14) (.tmp 16) 31 3 (.int .i64 0) 8 rfl Tryz.underlying31 info3 rfl (by decide) (by omega) u3 x3_1 x8_1 [.int .i64 x8_1] (fun _ => True) (fun _ => False) rfl rfl ?aP (fun _ hk => hk.elim) ?aF ?aO ?aB ?aS ?aL ?_; (case aP => exact rfl); (case aB => exact kO); (case aF => exact (fun _ _ => trivial)); (case aO => exact (kW HO_3)); (case aS => exact (below_size kO)); (case aL => have := LMc7.out; omega); intro v332 w8 ho hb hg hat; rw [← Ny331.out] at ho; have n0_ := Aside0.mk (hb); have n1_ := Aside0.mk (ho); clear HB; clear HO_3; have HB := n0_; have HO333 := n1_; clear n0_ n1_; clear ho hb hg hat))
        go_roundg k1
        case measure => have := HK1.out; omega
        case rel => exact ⟨(y331), (wrap64 (x8_1 + 1)), kY, H', ⟨by have := HK1.out; omega⟩, ⟨kW HO333⟩, kI⟩
       ·rw [if_neg c7] at H
        exact absurd H (by simp)
      ·replace c6 := Bool.eq_false_iff.mpr c6
       subst c6
       rw [if_neg (show ¬ (false = true) by decide)] at H
       have H' := Aside0.mk H
       clear H
       have p330 : 0 ≤ (x8_1 : Int) := of_decide_eq_true (by first | (with_reducible assumption) | assumption)
       have q330 : x8_1 < (l0.length : Int) := of_decide_eq_true (by first | (with_reducible assumption) | assumption)
       obtain ⟨ad330, e330, hx330_0⟩ := Kd.at_bool HR0.out x8_1 p330 q330
       (try rw [← Nbq5.out] at hx330_0)
       cases e330
       replace hx330_0 := (HB.out.cell (World.block_lt_of_cell? w _ hx330_0)).trans hx330_0
       replace p330 := eq_true p330
       replace q330 := eq_true q330
       go_wp2
       go_roundg k1
       case measure => have := HK1.out; omega
       case rel => exact ⟨(x3_1), (wrap64 (x8_1 + 1)), kY, H', ⟨by have := HK1.out; omega⟩, ⟨kW HO_3⟩, kI⟩
     ·rw [if_neg c4] at H
      exact absurd H (by simp)
    ·rw [if_neg c3] at H
     exact absurd H (by simp)
   ·rw [if_neg c2] at H
    have c2b0 : decide (x8_1 < (l0.length : Int)) = false := decide_eq_false c2
    clear c2
    obtain rfl := Option.some.inj H
    go_wp2
    go_ret
    exact ⟨_, kZ, kW HO_3, kO⟩

/-! ### spec_faCommon: function 46 -/
def spec_faCommon.l0 : Nat → List Bool → List Bool → Int → Int → Option (List Int)
 | 0, _, _, _, _ => none
 | k + 1, x7, x8, x17, x18 => if x18 < x17 then (if 0 ≤ x18 then (if x18 < (x7.length : Int) then (if rdOf false x7 x18 = true then (if x18 < (x8.length : Int) then (spec_faCommon.l0 k (x7.set (x18 : Int).toNat (rdOf false x8 x18)) x8 x17 (wrap64 (x18 + 1))) else (none)) else (spec_faCommon.l0 k (x7.set (x18 : Int).toNat false) x8 x17 (wrap64 (x18 + 1)))) else (none)) else (none)) else ((spec_faList.f k x7).bind fun t344 => (some t344))
def spec_faCommon.f (k : Nat) (l0 : List (S41)) (a1 : Int) (a2 : Int) : Option (List Int) := (spec_faAbove.f k l0 a1).bind fun t334 => ((spec_faAbove.f k l0 a2).bind fun t337 => (spec_faCommon.l0 k t334 t337 (t334.length : Int) 0))
set_option maxHeartbeats 8000000 in
set_option maxRecDepth 100000 in
theorem spec_faCommon.calls (k : Nat) (A0 : Option Addr) (c0 : Nat) (l0 : List (S41)) (a1 : Int) (a2 : Int) (r : List Int) (w : World) (hr0 : Kd.C k41 w A0 l0.length l0) (hc0 : l0.length ≤ c0) (h : spec_faCommon.f k l0 a1 a2 = some r) :
  Calls Tryz.prog 46 #[.slice A0 l0.length c0, .int .i64 a1, .int .i64 a2] w fun e w' => ∃ v0_ : Value, e = .returned (v0_) ∧ Kd.R (Kd.int .i64) 3 w' w.heap.size (fun _ => True) v0_ r ∧ Below w.heap.size w w' := by
 have HR0 := Aside0.mk hr0
 have HC0 := Aside0.mk hc0
 clear hr0 hc0
 have HB := Aside0.mk (Below.refl w.heap.size w)
 have H : ((spec_faAbove.f k l0 a1).bind fun t334 => ((spec_faAbove.f k l0 a2).bind fun t337 => (spec_faCommon.l0 k t334 t337 (t334.length : Int) 0))) = some r := h
 clear h
 replace H := Option.bind_eq_some_iff.mp H
 obtain ⟨t334, A40, H⟩ := H
 have A4 := Aside0.mk A40
 clear A40
 replace H := Option.bind_eq_some_iff.mp H
 obtain ⟨t337, A50, H⟩ := H
 have A5 := Aside0.mk A50
 clear A50
 have H' := Aside0.mk H
 clear H
 go_enter Tryz.func46, Tryz.ntmps46
 go_wp2_with (first | ((with_reducible refine gate_callee (f := 74) rfl ?_); refine kE (some 12) Tryz.func74 #[.slice A0 l0.length c0, .int .i64 a1] rfl ?_; (with_reducible refine (spec_faAbove.calls k _ _ l0 a1 t334 _ ?side1 ?side2 A4.out).mono ?_); (case side1 => exact kD HR0); (case side2 => exact HC0.out); rintro e w6 ⟨v335, rfl, ho0, hb⟩; refine ⟨_, rfl, ?_⟩; have n0_ := Aside0.mk (Kd.R_lower ho0 (below_size kO)); have n1_ := kH HB hb; clear HB; have HO336 := n0_; have HB := n1_; clear n0_ n1_; (try clear hb); (try clear ho0)) | ((with_reducible refine gate_callee (f := 74) rfl ?_); refine kE (some 15) Tryz.func74 #[.slice A0 l0.length c0, .int .i64 a2] rfl ?_; (with_reducible refine (spec_faAbove.calls k _ _ l0 a2 t337 _ ?side1 ?side2 A5.out).mono ?_); (case side1 => exact kDb HR0); (case side2 => exact HC0.out); rintro e w7 ⟨v338, rfl, ho0, hb⟩; refine ⟨_, rfl, ?_⟩; have n0_ := Aside0.mk (Kd.R_elder' (kW HO336) (Kd.R_base ho0) hb); have n1_ := Aside0.mk (Kd.R_lower (Kd.R_new' ho0 (Kd.R_lt (kW HO336))) (below_size kO)); have n2_ := kH HB hb; clear HO336; clear HB; have HO336 := n0_; have HO339 := n1_; have HB := n2_; clear n0_ n1_ n2_; (try clear hb); (try clear ho0); obtain ⟨Ao8, co8, eo8⟩ := Kd.R_slice HO336.out; subst eo8))
 go_loopg [18] k (fun kq v18 w' => ∃ (x7_1 : List Bool) (x18_1 : Int), v18 = .int .i64 x18_1 ∧ Aside0 (spec_faCommon.l0 kq x7_1 t337 (t334.length : Int) x18_1 = some r) ∧ Aside0 (kq ≤ k) ∧ Aside0 (Kd.R Kd.bool 4 w' w.heap.size (fun k_ => some k_ ≠ (v338 : Value).ownBlock) (.slice Ao8 t334.length co8) x7_1) ∧ Aside0 (Kd.R Kd.bool 4 w' w.heap.size (fun k_ => some k_ ≠ ((.slice Ao8 t334.length co8) : Value).ownBlock) v338 t337) ∧ Aside0 (Below w.heap.size w w'))
 case atStart => exact ⟨(t334), (0), kY, H', ⟨Nat.le_refl _⟩, ⟨by (with_reducible repeat (first | apply Kd.R_alloc | apply Kd.R_drewN | apply Kd.R_drew)); exact Kd.R_mono HO336.out (fun _ hk => hk.2)⟩, ⟨by (with_reducible repeat (first | apply Kd.R_alloc | apply Kd.R_drewN | apply Kd.R_drew)); exact Kd.R_mono HO339.out (fun _ hk => hk.2)⟩, kI⟩
 case round =>
  clear H'
  obtain ⟨x7_1, x18_1, rfl, HA, HK1, HO_7, HO_8, HB⟩ := hrel
  have hl7_1 := (Kd.R_reads' HO_7.out).1
  rw [hl7_1] at HO_7
  (try simp only [hl7_1])
  (try simp only [hl7_1] at HO_8)
  cases gk with
  | zero => exact absurd HA.out (by simp [spec_faCommon.l0])
  | succ k1 =>
   have H := HA.out
   clear HA
   simp only [spec_faCommon.l0] at H
   by_cases c9 : x18_1 < (t334.length : Int)
   ·rw [if_pos c9] at H
    have c9b0 : decide (x18_1 < (t334.length : Int)) = true := decide_eq_true c9
    (try (have c9b0r := c9b0; simp only [hl7_1] at c9b0r))
    clear c9
    by_cases c10 : 0 ≤ x18_1
    ·rw [if_pos c10] at H
     have c10b0 : decide (0 ≤ x18_1) = true := decide_eq_true c10
     clear c10
     by_cases c11 : x18_1 < (x7_1.length : Int)
     ·rw [if_pos c11] at H
      have c11b0 : decide (x18_1 < (x7_1.length : Int)) = true := decide_eq_true c11
      (try (have c11b0r := c11b0; simp only [hl7_1] at c11b0r))
      clear c11
      obtain ⟨bq12, hbq12⟩ : ∃ b_ : Bool, b_ = (rdOf false x7_1 x18_1) := ⟨_, rfl⟩
      replace H : (if bq12 = true then (if x18_1 < (t337.length : Int) then (spec_faCommon.l0 k1 (x7_1.set (x18_1 : Int).toNat (rdOf false t337 x18_1)) t337 (t334.length : Int) (wrap64 (x18_1 + 1))) else (none)) else (spec_faCommon.l0 k1 (x7_1.set (x18_1 : Int).toNat false) t337 (t334.length : Int) (wrap64 (x18_1 + 1)))) = some r := by rw [← hbq12] at H; exact H
      have Nbq12 := Aside0.mk hbq12
      clear hbq12
      by_cases c13 : bq12 = true
      ·subst c13
       rw [if_pos rfl] at H
       by_cases c14 : x18_1 < (t337.length : Int)
       ·rw [if_pos c14] at H
        have c14b0 : decide (x18_1 < (t337.length : Int)) = true := decide_eq_true c14
        (try (have c14b0r := c14b0; simp only [hl7_1] at c14b0r))
        clear c14
        obtain ⟨y342, hy342⟩ : ∃ y_ : List Bool, y_ = (x7_1.set (x18_1 : Int).toNat (rdOf false t337 x18_1)) := ⟨_, rfl⟩
        replace H : (spec_faCommon.l0 k1 y342 t337 (t334.length : Int) (wrap64 (x18_1 + 1))) = some r := by first | (rw [hy342]; with_reducible exact H) | (have H2_ := (Option.bind_some _ _).symm.trans H; rw [hy342]; with_reducible exact H2_) | (have H2_ := (Option.bind_some _ _).symm.trans H; with_reducible exact H2_) | with_reducible exact H | (rw [hy342]; exact H) | exact H
        have Ny342 := Aside0.mk hy342
        clear hy342
        have H' := Aside0.mk H
        clear H
        have p340 : 0 ≤ (x18_1 : Int) := of_decide_eq_true (by first | (with_reducible assumption) | assumption)
        have q340 : x18_1 < (x7_1.length : Int) := of_decide_eq_true (by first | (with_reducible assumption) | assumption)
        obtain ⟨ad340, e340, hx340_0⟩ := Kd.at_bool (Kd.R_reads' HO_7.out).2.2 x18_1 p340 q340
        (try rw [← Nbq12.out] at hx340_0)
        cases e340
        replace p340 := eq_true p340
        replace q340 := eq_true q340
        obtain ⟨Ao16, co16, eo16⟩ := Kd.R_slice HO_8.out
        subst eo16
        have p341 : 0 ≤ (x18_1 : Int) := of_decide_eq_true (by first | (with_reducible assumption) | assumption)
        have q341 : x18_1 < (t337.length : Int) := of_decide_eq_true (by first | (with_reducible assumption) | assumption)
        obtain ⟨ad341, e341, hx341_0⟩ := Kd.at_bool (Kd.R_reads' HO_8.out).2.2 x18_1 p341 q341
        (try rw [← Nbq12.out] at hx341_0)
        cases e341
        replace p341 := eq_true p341
        replace q341 := eq_true q341
        have p15 : 0 ≤ (x18_1 : Int) := of_decide_eq_true (by first | (with_reducible assumption) | assumption)
        have q15 : (x18_1 : Int) < ((x7_1.length : Int) : Int) := of_decide_eq_true (by first | (with_reducible assumption) | assumption)
        obtain ⟨go15, co15, eo15, gb15, gl15, cl15, HG15⟩ := Kd.R_form HO_7.out (by omega)
        (first | cases eo15 | (injection eo15 with ea_ en_ ec_; (first | subst ea_ | (injection ea_ with ea_; subst ea_)); subst ec_; clear en_))
        have GB15 := Aside0.mk gb15
        have GG15 := Aside0.mk HG15
        clear gb15 gl15 HG15
        (first | simp only [add_plain] at hx340_0 | skip)
        obtain ⟨hx15_0, hf15_0⟩ := Kd.R_celln false HO_7.out (x18_1 : Int) p15 q15
        replace p15 := eq_true p15
        replace q15 := eq_true q15
        have HP17 := Kd.R_putg HO_7.out (x18_1 : Int) (rdOf false t337 x18_1)
        go_wp2_with (first | ((with_reducible refine gate_store (t := 4) (p := 33) rfl ?_); refine store_event (t := 4) (p := 33) (v := ?vo_w18) (w1 := (wr.setCell ⟨go15, (x18_1 : Int).toNat, none⟩ (.bool (rdOf false t337 x18_1)))) ?hg ?ho ?hn ?hr ?_; (case ho => rfl); (case hg => rfl); (case hn => rfl); (case hr => first | (go_simp; done) | (go_simp; rfl)); intro w18 hw; have hg : wr.grownBy w18 (some go15) := (by rw [hw]; exact HP17.2); have hp_ : Kd.R Kd.bool 4 w18 w.heap.size (fun k_ => some k_ ≠ (.slice (some ad341) t337.length co16 : Value).ownBlock) (.slice (some ⟨go15, 0, none⟩) x7_1.length co8) y342 := (by rw [hw, Ny342.out]; exact HP17.1); clear HP17; have n0_ := Aside0.mk (hp_); have n1_ := Aside0.mk (Kd.R_after (v := (.slice (some ⟨go15, 0, none⟩) x7_1.length co8)) (v1 := (.slice (some ⟨go15, 0, none⟩) x7_1.length co8)) (ok := (fun _ => True)) (by (with_reducible repeat (first | apply Kd.R_alloc | apply Kd.R_drewN | apply Kd.R_drew)); exact Kd.R_mono HO_8.out (fun _ hk => ⟨trivial, hk⟩)) hg (.inl rfl)); have n2_ := Aside0.mk ((by rw [hw]; exact below_set (HB.out) GB15.out : Below w.heap.size w w18)); clear HO_7; clear HO_8; clear HB; have HO_7 := n0_; have HO_8 := n1_; have HB := n2_; clear n0_ n1_ n2_; clear hg hw hp_))
        (try simp only [← hl7_1])
        go_roundg k1
        case measure => have := HK1.out; omega
        case rel => exact ⟨(y342), (wrap64 (x18_1 + 1)), kY, H', ⟨by have := HK1.out; omega⟩, ⟨by (try simp only [hl7_1]); (with_reducible repeat (first | apply Kd.R_alloc | apply Kd.R_drewN | apply Kd.R_drew)); exact HO_7.out⟩, ⟨by (try simp only [hl7_1]); (with_reducible repeat (first | apply Kd.R_alloc | apply Kd.R_drewN | apply Kd.R_drew)); exact Kd.R_mono HO_8.out (fun _ hk => hk.2)⟩, kI⟩
       ·rw [if_neg c14] at H
        exact absurd H (by simp)
      ·replace c13 := Bool.eq_false_iff.mpr c13
       subst c13
       rw [if_neg (show ¬ (false = true) by decide)] at H
       obtain ⟨y343, hy343⟩ : ∃ y_ : List Bool, y_ = (x7_1.set (x18_1 : Int).toNat false) := ⟨_, rfl⟩
       replace H : (spec_faCommon.l0 k1 y343 t337 (t334.length : Int) (wrap64 (x18_1 + 1))) = some r := by first | (rw [hy343]; with_reducible exact H) | (have H2_ := (Option.bind_some _ _).symm.trans H; rw [hy343]; with_reducible exact H2_) | (have H2_ := (Option.bind_some _ _).symm.trans H; with_reducible exact H2_) | with_reducible exact H | (rw [hy343]; exact H) | exact H
       have Ny343 := Aside0.mk hy343
       clear hy343
       have H' := Aside0.mk H
       clear H
       have p340 : 0 ≤ (x18_1 : Int) := of_decide_eq_true (by first | (with_reducible assumption) | assumption)
       have q340 : x18_1 < (x7_1.length : Int) := of_decide_eq_true (by first | (with_reducible assumption) | assumption)
       obtain ⟨ad340, e340, hx340_0⟩ := Kd.at_bool (Kd.R_reads' HO_7.out).2.2 x18_1 p340 q340
       (try rw [← Nbq12.out] at hx340_0)
       cases e340
       replace p340 := eq_true p340
       replace q340 := eq_true q340
       have p19 : 0 ≤ (x18_1 : Int) := of_decide_eq_true (by first | (with_reducible assumption) | assumption)
       have q19 : (x18_1 : Int) < ((x7_1.length : Int) : Int) := of_decide_eq_true (by first | (with_reducible assumption) | assumption)
       obtain ⟨go19, co19, eo19, gb19, gl19, cl19, HG19⟩ := Kd.R_form HO_7.out (by omega)
       (first | cases eo19 | (injection eo19 with ea_ en_ ec_; (first | subst ea_ | (injection ea_ with ea_; subst ea_)); subst ec_; clear en_))
       have GB19 := Aside0.mk gb19
       have GG19 := Aside0.mk HG19
       clear gb19 gl19 HG19
       (first | simp only [add_plain] at hx340_0 | skip)
       obtain ⟨hx19_0, hf19_0⟩ := Kd.R_celln false HO_7.out (x18_1 : Int) p19 q19
       replace p19 := eq_true p19
       replace q19 := eq_true q19
       have HP20 := Kd.R_putg HO_7.out (x18_1 : Int) false
       go_wp2_with (first | ((with_reducible refine gate_store (t := 4) (p := 33) rfl ?_); refine store_event (t := 4) (p := 33) (v := ?vo_w21) (w1 := (wr.setCell ⟨go19, (x18_1 : Int).toNat, none⟩ (.bool false))) ?hg ?ho ?hn ?hr ?_; (case ho => rfl); (case hg => rfl); (case hn => rfl); (case hr => first | (go_simp; done) | (go_simp; rfl)); intro w21 hw; have hg : wr.grownBy w21 (some go19) := (by rw [hw]; exact HP20.2); have hp_ : Kd.R Kd.bool 4 w21 w.heap.size (fun k_ => some k_ ≠ (v338 : Value).ownBlock) (.slice (some ⟨go19, 0, none⟩) x7_1.length co8) y343 := (by rw [hw, Ny343.out]; exact HP20.1); clear HP20; have n0_ := Aside0.mk (hp_); have n1_ := Aside0.mk (Kd.R_after (v := (.slice (some ⟨go19, 0, none⟩) x7_1.length co8)) (v1 := (.slice (some ⟨go19, 0, none⟩) x7_1.length co8)) (ok := (fun _ => True)) (by (with_reducible repeat (first | apply Kd.R_alloc | apply Kd.R_drewN | apply Kd.R_drew)); exact Kd.R_mono HO_8.out (fun _ hk => ⟨trivial, hk⟩)) hg (.inl rfl)); have n2_ := Aside0.mk ((by rw [hw]; exact below_set (HB.out) GB19.out : Below w.heap.size w w21)); clear HO_7; clear HO_8; clear HB; have HO_7 := n0_; have HO_8 := n1_; have HB := n2_; clear n0_ n1_ n2_; clear hg hw hp_))
       (try simp only [← hl7_1])
       go_roundg k1
       case measure => have := HK1.out; omega
       case rel => exact ⟨(y343), (wrap64 (x18_1 + 1)), kY, H', ⟨by have := HK1.out; omega⟩, ⟨by (try simp only [hl7_1]); (with_reducible repeat (first | apply Kd.R_alloc | apply Kd.R_drewN | apply Kd.R_drew)); exact HO_7.out⟩, ⟨by (try simp only [hl7_1]); (with_reducible repeat (first | apply Kd.R_alloc | apply Kd.R_drewN | apply Kd.R_drew)); exact Kd.R_mono HO_8.out (fun _ hk => hk.2)⟩, kI⟩
     ·rw [if_neg c11] at H
      exact absurd H (by simp)
    ·rw [if_neg c10] at H
     exact absurd H (by simp)
   ·rw [if_neg c9] at H
    have c9b0 : decide (x18_1 < (t334.length : Int)) = false := decide_eq_false c9
    (try (have c9b0r := c9b0; simp only [hl7_1] at c9b0r))
    clear c9
    replace H := Option.bind_eq_some_iff.mp H
    obtain ⟨t344, A220, H⟩ := H
    have A22 := Aside0.mk A220
    clear A220
    obtain rfl := Option.some.inj H
    go_wp2_with (first | ((with_reducible refine gate_callee (f := 75) rfl ?_); refine kE (some 36) Tryz.func75 #[.slice Ao8 x7_1.length co8] rfl ?_; (with_reducible refine (spec_faList.calls k1 _ _ x7_1 t344 _ ?side1 ?side2 A22.out).mono ?_); (case side1 => exact kDo HO_7); (case side2 => exact (Kd.R_reads' HO_7.out).2.1); rintro e w23 ⟨v345, rfl, ho0, hb⟩; refine ⟨_, rfl, ?_⟩; have n0_ := Aside0.mk (Kd.R_below (kW HO_7) hb); have n1_ := Aside0.mk (Kd.R_below (kW HO_8) hb); have n2_ := Aside0.mk (Kd.R_lower ho0 (below_size kO)); have n3_ := kH HB hb; clear HO_7; clear HO_8; clear HB; have HO_7 := n0_; have HO_8 := n1_; have HO346 := n2_; have HB := n3_; clear n0_ n1_ n2_ n3_; (try clear hb); (try clear ho0)))
    go_ret
    exact ⟨_, kZ, kW HO346, kO⟩

/-! ### spec_faGrand: function 72 -/
def spec_faGrand.l0 : Nat → List (S41) → Int → List Int → Int → Int → Option (Bool)
 | 0, _, _, _, _, _ => none
 | k + 1, x0, x1, x11, x12, x13 => if x13 < x12 then (if 0 ≤ x13 then (if x13 < (x11.length : Int) then ((spec_faParents.f k x0 (rd x11 x13)).bind fun t351 => ((spec_l1Has.f k t351 x1).bind fun t354 => (if t354 = true then (some true) else (spec_faGrand.l0 k x0 x1 x11 x12 (wrap64 (x13 + 1)))))) else (none)) else (none)) else (some false)
def spec_faGrand.f (k : Nat) (l0 : List (S41)) (a1 : Int) (a2 : Int) : Option (Bool) := (spec_faParents.f k l0 a2).bind fun t347 => (spec_faGrand.l0 k l0 a1 t347 (t347.length : Int) 0)
set_option maxHeartbeats 8000000 in
set_option maxRecDepth 100000 in
theorem spec_faGrand.calls (k : Nat) (A0 : Option Addr) (c0 : Nat) (l0 : List (S41)) (a1 : Int) (a2 : Int) (r : Bool) (w : World) (hr0 : Kd.C k41 w A0 l0.length l0) (hc0 : l0.length ≤ c0) (h : spec_faGrand.f k l0 a1 a2 = some r) :
  Calls Tryz.prog 72 #[.slice A0 l0.length c0, .int .i64 a1, .int .i64 a2] w fun e w' => e = .returned (.bool r) ∧ Below w.heap.size w w' := by
 have HR0 := Aside0.mk hr0
 have HC0 := Aside0.mk hc0
 clear hr0 hc0
 have HB := Aside0.mk (Below.refl w.heap.size w)
 have H : ((spec_faParents.f k l0 a2).bind fun t347 => (spec_faGrand.l0 k l0 a1 t347 (t347.length : Int) 0)) = some r := h
 clear h
 replace H := Option.bind_eq_some_iff.mp H
 obtain ⟨t347, A40, H⟩ := H
 have A4 := Aside0.mk A40
 clear A40
 have H' := Aside0.mk H
 clear H
 go_enter Tryz.func72, Tryz.ntmps72
 go_wp2_with (first | ((with_reducible refine gate_callee (f := 57) rfl ?_); refine kE (some 11) Tryz.func57 #[.slice A0 l0.length c0, .int .i64 a2] rfl ?_; (with_reducible refine (spec_faParents.calls k _ _ l0 a2 t347 _ ?side1 ?side2 A4.out).mono ?_); (case side1 => exact kD HR0); (case side2 => exact HC0.out); rintro e w5 ⟨v348, rfl, ho0, hb⟩; refine ⟨_, rfl, ?_⟩; have n0_ := Aside0.mk (Kd.R_lower ho0 (below_size kO)); have n1_ := kH HB hb; clear HB; have HO349 := n0_; have HB := n1_; clear n0_ n1_; (try clear hb); (try clear ho0); obtain ⟨Ao6, co6, eo6⟩ := Kd.R_slice HO349.out; subst eo6))
 go_loopg [13] k (fun kq v13 w' => ∃ (x13_1 : Int), v13 = .int .i64 x13_1 ∧ Aside0 (spec_faGrand.l0 kq l0 a1 t347 (t347.length : Int) x13_1 = some r) ∧ Aside0 (kq ≤ k) ∧ Aside0 (Kd.R (Kd.int .i64) 3 w' w.heap.size (fun _ => True) (.slice Ao6 t347.length co6) t347) ∧ Aside0 (Below w.heap.size w w'))
 case atStart => exact ⟨(0), kY, H', ⟨Nat.le_refl _⟩, ⟨kW HO349⟩, kI⟩
 case round =>
  clear H'
  obtain ⟨x13_1, rfl, HA, HK1, HO_11, HB⟩ := hrel
  cases gk with
  | zero => exact absurd HA.out (by simp [spec_faGrand.l0])
  | succ k1 =>
   have H := HA.out
   clear HA
   simp only [spec_faGrand.l0] at H
   by_cases c7 : x13_1 < (t347.length : Int)
   ·rw [if_pos c7] at H
    have c7b0 : decide (x13_1 < (t347.length : Int)) = true := decide_eq_true c7
    clear c7
    by_cases c8 : 0 ≤ x13_1
    ·rw [if_pos c8] at H
     have c8b0 : decide (0 ≤ x13_1) = true := decide_eq_true c8
     clear c8
     by_cases c9 : x13_1 < (t347.length : Int)
     ·rw [if_pos c9] at H
      have c9b0 : decide (x13_1 < (t347.length : Int)) = true := decide_eq_true c9
      clear c9
      replace H := Option.bind_eq_some_iff.mp H
      obtain ⟨t351, A100, H⟩ := H
      have A10 := Aside0.mk A100
      clear A100
      replace H := Option.bind_eq_some_iff.mp H
      obtain ⟨t354, A110, H⟩ := H
      have A11 := Aside0.mk A110
      clear A110
      by_cases c12 : t354 = true
      ·subst c12
       rw [if_pos rfl] at H
       obtain rfl := Option.some.inj H
       have p350 : 0 ≤ (x13_1 : Int) := of_decide_eq_true (by first | (with_reducible assumption) | assumption)
       have q350 : x13_1 < (t347.length : Int) := of_decide_eq_true (by first | (with_reducible assumption) | assumption)
       obtain ⟨ad350, e350, hx350_0⟩ := Kd.at_int (Kd.R_reads' HO_11.out).2.2 x13_1 p350 q350
       cases e350
       replace p350 := eq_true p350
       replace q350 := eq_true q350
       go_wp2_with (first | ((with_reducible refine gate_callee (f := 57) rfl ?_); refine kE (some 19) Tryz.func57 #[.slice A0 l0.length c0, .int .i64 (rd t347 x13_1)] rfl ?_; (with_reducible refine (spec_faParents.calls k1 _ _ l0 (rd t347 x13_1) t351 _ ?side1 ?side2 A10.out).mono ?_); (case side1 => exact kDb HR0); (case side2 => exact HC0.out); rintro e w13 ⟨v352, rfl, ho0, hb⟩; refine ⟨_, rfl, ?_⟩; have n0_ := Aside0.mk (Kd.R_elder' (kW HO_11) (Kd.R_base ho0) hb); have n1_ := Aside0.mk (Kd.R_lower (Kd.R_new' ho0 (Kd.R_lt (kW HO_11))) (below_size kO)); have n2_ := kH HB hb; clear HO_11; clear HB; have HO_11 := n0_; have HO353 := n1_; have HB := n2_; clear n0_ n1_ n2_; (try clear hb); (try clear ho0); obtain ⟨Ao14, co14, eo14⟩ := Kd.R_slice HO353.out; subst eo14) | ((with_reducible refine gate_callee (f := 56) rfl ?_); refine kE (some 21) Tryz.func56 #[.slice Ao14 t351.length co14, .int .i64 a1] rfl ?_; (with_reducible refine (spec_l1Has.calls k1 _ _ t351 a1 true _ ?side1 ?side2 A11.out).mono ?_); (case side1 => exact kDo HO353); (case side2 => exact (Kd.R_reads' HO353.out).2.1); rintro e w' ⟨rfl, ⟨nd, rfl⟩⟩; refine ⟨_, rfl, ?_⟩))
       go_ret
       exact ⟨kZ, kO⟩
      ·replace c12 := Bool.eq_false_iff.mpr c12
       subst c12
       rw [if_neg (show ¬ (false = true) by decide)] at H
       have H' := Aside0.mk H
       clear H
       have p350 : 0 ≤ (x13_1 : Int) := of_decide_eq_true (by first | (with_reducible assumption) | assumption)
       have q350 : x13_1 < (t347.length : Int) := of_decide_eq_true (by first | (with_reducible assumption) | assumption)
       obtain ⟨ad350, e350, hx350_0⟩ := Kd.at_int (Kd.R_reads' HO_11.out).2.2 x13_1 p350 q350
       cases e350
       replace p350 := eq_true p350
       replace q350 := eq_true q350
       go_wp2_with (first | ((with_reducible refine gate_callee (f := 57) rfl ?_); refine kE (some 19) Tryz.func57 #[.slice A0 l0.length c0, .int .i64 (rd t347 x13_1)] rfl ?_; (with_reducible refine (spec_faParents.calls k1 _ _ l0 (rd t347 x13_1) t351 _ ?side1 ?side2 A10.out).mono ?_); (case side1 => exact kDb HR0); (case side2 => exact HC0.out); rintro e w15 ⟨v352, rfl, ho0, hb⟩; refine ⟨_, rfl, ?_⟩; have n0_ := Aside0.mk (Kd.R_elder' (kW HO_11) (Kd.R_base ho0) hb); have n1_ := Aside0.mk (Kd.R_lower (Kd.R_new' ho0 (Kd.R_lt (kW HO_11))) (below_size kO)); have n2_ := kH HB hb; clear HO_11; clear HB; have HO_11 := n0_; have HO353 := n1_; have HB := n2_; clear n0_ n1_ n2_; (try clear hb); (try clear ho0); obtain ⟨Ao16, co16, eo16⟩ := Kd.R_slice HO353.out; subst eo16) | ((with_reducible refine gate_callee (f := 56) rfl ?_); refine kE (some 21) Tryz.func56 #[.slice Ao16 t351.length co16, .int .i64 a1] rfl ?_; (with_reducible refine (spec_l1Has.calls k1 _ _ t351 a1 false _ ?side1 ?side2 A11.out).mono ?_); (case side1 => exact kDo HO353); (case side2 => exact (Kd.R_reads' HO353.out).2.1); rintro e w' ⟨rfl, ⟨nd, rfl⟩⟩; refine ⟨_, rfl, ?_⟩))
       go_roundg k1
       case measure => have := HK1.out; omega
       case rel => exact ⟨(wrap64 (x13_1 + 1)), kY, H', ⟨by have := HK1.out; omega⟩, ⟨by (with_reducible repeat (first | apply Kd.R_alloc | apply Kd.R_drewN | apply Kd.R_drew)); exact Kd.R_mono HO_11.out (fun _ hk => trivial)⟩, kI⟩
     ·rw [if_neg c9] at H
      exact absurd H (by simp)
    ·rw [if_neg c8] at H
     exact absurd H (by simp)
   ·rw [if_neg c7] at H
    have c7b0 : decide (x13_1 < (t347.length : Int)) = false := decide_eq_false c7
    clear c7
    obtain rfl := Option.some.inj H
    go_wp2
    go_ret
    exact ⟨kZ, kO⟩

/-! ### spec_faAunt: function 73 -/
def spec_faAunt.l0 : Nat → List (S41) → Int → List Int → Int → Int → Option (Bool)
 | 0, _, _, _, _, _ => none
 | k + 1, x0, x1, x11, x12, x13 => if x13 < x12 then (if 0 ≤ x13 then (if x13 < (x11.length : Int) then ((spec_faSiblings.f k x0 x1 (rd x11 x13)).bind fun t359 => (if t359 = true then (some true) else (spec_faAunt.l0 k x0 x1 x11 x12 (wrap64 (x13 + 1))))) else (none)) else (none)) else (some false)
def spec_faAunt.f (k : Nat) (l0 : List (S41)) (a1 : Int) (a2 : Int) : Option (Bool) := (spec_faParents.f k l0 a2).bind fun t355 => (spec_faAunt.l0 k l0 a1 t355 (t355.length : Int) 0)
set_option maxHeartbeats 8000000 in
set_option maxRecDepth 100000 in
theorem spec_faAunt.calls (k : Nat) (A0 : Option Addr) (c0 : Nat) (l0 : List (S41)) (a1 : Int) (a2 : Int) (r : Bool) (w : World) (hr0 : Kd.C k41 w A0 l0.length l0) (hc0 : l0.length ≤ c0) (h : spec_faAunt.f k l0 a1 a2 = some r) :
  Calls Tryz.prog 73 #[.slice A0 l0.length c0, .int .i64 a1, .int .i64 a2] w fun e w' => e = .returned (.bool r) ∧ Below w.heap.size w w' := by
 have HR0 := Aside0.mk hr0
 have HC0 := Aside0.mk hc0
 clear hr0 hc0
 have HB := Aside0.mk (Below.refl w.heap.size w)
 have H : ((spec_faParents.f k l0 a2).bind fun t355 => (spec_faAunt.l0 k l0 a1 t355 (t355.length : Int) 0)) = some r := h
 clear h
 replace H := Option.bind_eq_some_iff.mp H
 obtain ⟨t355, A40, H⟩ := H
 have A4 := Aside0.mk A40
 clear A40
 have H' := Aside0.mk H
 clear H
 go_enter Tryz.func73, Tryz.ntmps73
 go_wp2_with (first | ((with_reducible refine gate_callee (f := 57) rfl ?_); refine kE (some 11) Tryz.func57 #[.slice A0 l0.length c0, .int .i64 a2] rfl ?_; (with_reducible refine (spec_faParents.calls k _ _ l0 a2 t355 _ ?side1 ?side2 A4.out).mono ?_); (case side1 => exact kD HR0); (case side2 => exact HC0.out); rintro e w5 ⟨v356, rfl, ho0, hb⟩; refine ⟨_, rfl, ?_⟩; have n0_ := Aside0.mk (Kd.R_lower ho0 (below_size kO)); have n1_ := kH HB hb; clear HB; have HO357 := n0_; have HB := n1_; clear n0_ n1_; (try clear hb); (try clear ho0); obtain ⟨Ao6, co6, eo6⟩ := Kd.R_slice HO357.out; subst eo6))
 go_loopg [13] k (fun kq v13 w' => ∃ (x13_1 : Int), v13 = .int .i64 x13_1 ∧ Aside0 (spec_faAunt.l0 kq l0 a1 t355 (t355.length : Int) x13_1 = some r) ∧ Aside0 (kq ≤ k) ∧ Aside0 (Kd.R (Kd.int .i64) 3 w' w.heap.size (fun _ => True) (.slice Ao6 t355.length co6) t355) ∧ Aside0 (Below w.heap.size w w'))
 case atStart => exact ⟨(0), kY, H', ⟨Nat.le_refl _⟩, ⟨kW HO357⟩, kI⟩
 case round =>
  clear H'
  obtain ⟨x13_1, rfl, HA, HK1, HO_11, HB⟩ := hrel
  cases gk with
  | zero => exact absurd HA.out (by simp [spec_faAunt.l0])
  | succ k1 =>
   have H := HA.out
   clear HA
   simp only [spec_faAunt.l0] at H
   by_cases c7 : x13_1 < (t355.length : Int)
   ·rw [if_pos c7] at H
    have c7b0 : decide (x13_1 < (t355.length : Int)) = true := decide_eq_true c7
    clear c7
    by_cases c8 : 0 ≤ x13_1
    ·rw [if_pos c8] at H
     have c8b0 : decide (0 ≤ x13_1) = true := decide_eq_true c8
     clear c8
     by_cases c9 : x13_1 < (t355.length : Int)
     ·rw [if_pos c9] at H
      have c9b0 : decide (x13_1 < (t355.length : Int)) = true := decide_eq_true c9
      clear c9
      replace H := Option.bind_eq_some_iff.mp H
      obtain ⟨t359, A100, H⟩ := H
      have A10 := Aside0.mk A100
      clear A100
      by_cases c11 : t359 = true
      ·subst c11
       rw [if_pos rfl] at H
       obtain rfl := Option.some.inj H
       have p358 : 0 ≤ (x13_1 : Int) := of_decide_eq_true (by first | (with_reducible assumption) | assumption)
       have q358 : x13_1 < (t355.length : Int) := of_decide_eq_true (by first | (with_reducible assumption) | assumption)
       obtain ⟨ad358, e358, hx358_0⟩ := Kd.at_int (Kd.R_reads' HO_11.out).2.2 x13_1 p358 q358
       cases e358
       replace p358 := eq_true p358
       replace q358 := eq_true q358
       go_wp2_with (first | ((with_reducible refine gate_callee (f := 42) rfl ?_); refine kE (some 20) Tryz.func42 #[.slice A0 l0.length c0, .int .i64 a1, .int .i64 (rd t355 x13_1)] rfl ?_; (with_reducible refine (spec_faSiblings.calls k1 _ _ l0 a1 (rd t355 x13_1) true _ ?side1 ?side2 A10.out).mono ?_); (case side1 => exact kDb HR0); (case side2 => exact HC0.out); rintro e w12 ⟨rfl, hb⟩; refine ⟨_, rfl, ?_⟩; have n0_ := Aside0.mk (Kd.R_below (kW HO_11) hb); have n1_ := kH HB hb; clear HO_11; clear HB; have HO_11 := n0_; have HB := n1_; clear n0_ n1_; (try clear hb)))
       go_ret
       exact ⟨kZ, kO⟩
      ·replace c11 := Bool.eq_false_iff.mpr c11
       subst c11
       rw [if_neg (show ¬ (false = true) by decide)] at H
       have H' := Aside0.mk H
       clear H
       have p358 : 0 ≤ (x13_1 : Int) := of_decide_eq_true (by first | (with_reducible assumption) | assumption)
       have q358 : x13_1 < (t355.length : Int) := of_decide_eq_true (by first | (with_reducible assumption) | assumption)
       obtain ⟨ad358, e358, hx358_0⟩ := Kd.at_int (Kd.R_reads' HO_11.out).2.2 x13_1 p358 q358
       cases e358
       replace p358 := eq_true p358
       replace q358 := eq_true q358
       go_wp2_with (first | ((with_reducible refine gate_callee (f := 42) rfl ?_); refine kE (some 20) Tryz.func42 #[.slice A0 l0.length c0, .int .i64 a1, .int .i64 (rd t355 x13_1)] rfl ?_; (with_reducible refine (spec_faSiblings.calls k1 _ _ l0 a1 (rd t355 x13_1) false _ ?side1 ?side2 A10.out).mono ?_); (case side1 => exact kDb HR0); (case side2 => exact HC0.out); rintro e w13 ⟨rfl, hb⟩; refine ⟨_, rfl, ?_⟩; have n0_ := Aside0.mk (Kd.R_below (kW HO_11) hb); have n1_ := kH HB hb; clear HO_11; clear HB; have HO_11 := n0_; have HB := n1_; clear n0_ n1_; (try clear hb)))
       go_roundg k1
       case measure => have := HK1.out; omega
       case rel => exact ⟨(wrap64 (x13_1 + 1)), kY, H', ⟨by have := HK1.out; omega⟩, ⟨kW HO_11⟩, kI⟩
     ·rw [if_neg c9] at H
      exact absurd H (by simp)
    ·rw [if_neg c8] at H
     exact absurd H (by simp)
   ·rw [if_neg c7] at H
    have c7b0 : decide (x13_1 < (t355.length : Int)) = false := decide_eq_false c7
    clear c7
    obtain rfl := Option.some.inj H
    go_wp2
    go_ret
    exact ⟨kZ, kO⟩

end Go.Proofs.YtllihaahppelhaaGreat.P
